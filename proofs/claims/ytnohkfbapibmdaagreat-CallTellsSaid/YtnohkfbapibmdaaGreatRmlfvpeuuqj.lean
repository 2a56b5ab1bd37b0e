/- Texts put together: Words, Ip4. No condition. -/
import Derived.Test.YtnohkfbapibmdaaGreatRctlrhhfaal
import Derived.Test.YtnohkfbapibmdaaGreatReavtgjtnmi
import Derived.Test.YtnohkfbapibmdaaGreatRxzblzrfdxd
import Derived.Test.YtnohkfbapibmdaaGreatRows
import Derived.Test.YtnohkfbapibmdaaGreatShelf
import Derived.WalkKit
import Derived.WalkSpells
import Derived.WalkLawsBesides
import Derived.WalkSmall
import Derived.BigGuardPart
import Derived.BigQuiet
import Derived.Deep.QuietTactic
import Derived.Deep.RegionLaw
import Derived.Deep.Light
import Derived.Test.YtnohkfbapibmdaaGreatRoqtylxhcsf
namespace Go.Proofs.YtnohkfbapibmdaaGreat
open Go.RowKit
attribute [local go_sem] w64_byte w64_byte_sub

theorem strRow : RowT Tryz.prog 38 9 1 16 := RowT.mk (.string ByteArray.empty) Tryz.underlying38 (by kernel_rfl) rfl (by omega)
theorem idxByte (s : ByteArray) (c : UInt8) (w : World) :
    Calls Tryz.prog 37 #[.string s, .int .u8 c.toNat] w fun e w' => e = .returned (.int .i64 (Lib.indexByte s.data.toList c)) ∧ w = w' := by
  refine (Tryz.strings_IndexByte s c.toNat w).mono fun e w' ⟨h1, h2⟩ => ⟨?_, h2.symm⟩
  rw [h1]; congr 2; simp

/-- what a function that hands back a row of strings of its own gives -/
def GivesStrs (W : World) (l : List (List UInt8)) (en : Ending) (w' : World) : Prop := ∃ v, en = .returned v ∧ w'.ownsRow W.heap.size 9 1 v l.length (l.map sv) ∧ Below W.heap.size W w'

/-- words.Split: what is cut already, and what is left -/
def SplitAt (W : World) (c : UInt8) (l : List UInt8) (r : ByteArray) (v : Value) (wr : World) : Prop :=
  ∃ xs : List (List UInt8), splitL c l = xs ++ splitL c r.data.toList ∧ wr.ownsRow W.heap.size 9 1 v xs.length (xs.map sv) ∧ xs.length + r.size ≤ l.length
set_option maxRecDepth 100000 in
set_option maxHeartbeats 1000000 in
theorem split_any (s : ByteArray) (c : UInt8) (w : World) (hs : s.size ≤ 8000000000000) :
    Calls Tryz.prog 13 #[.string s, .int .u8 c.toNat] w (GivesStrs w (splitL c s.data.toList)) := by
  go_enter Tryz.func13, Tryz.ntmps13
  go_wp2_with fail
  go_loopw [0, 5] (fun x v wr => ∃ r : ByteArray, x = .string r ∧ r.size ≤ s.size ∧ Hid (SplitAt w c s.data.toList r v wr) ∧ Below w.heap.size w wr) (fun x _ _ => strLen x)
  case atStart => exact ⟨s, rfl, Nat.le_refl _, ⟨[], rfl, World.ownsRow_nil _ _ _ _, by simp⟩, Below.refl _ _⟩
  case round =>
    obtain ⟨r, rfl, hr, HS, hb⟩ := hrel
    obtain ⟨xs, h1, h2, h3⟩ := HS.out
    rw [len_data] at h3
    have H1 := Lib.hid h1; clear h1
    have n1 : (xs.length + 1) * 16 ≤ 140737488355328 := by omega
    have n2 : xs.length + 1 ≤ 140737488355328 := by omega
    have hz := hb.size
    have hge := Lib.indexByte_ge r.data.toList c
    by_cases hi : Lib.indexByte r.data.toList c < 0
    · have e : Lib.indexByte r.data.toList c = -1 := by omega
      have hx := fun w => idxByte r c w
      simp only [e] at hx
      have HX := Lib.hid hx; have HE := Lib.hid e; clear hx e hi hge
      go_wp2_with (first | (go_at_call 37; refine (HX.out _).mono ?_; rintro e w' ⟨rfl, rfl⟩) | (at_builtin; refine list_app strRow rfl (.tmp 12) (.tmp 14) rfl w.heap.size _ xs.length (xs.map sv) rfl h2 [.string r] rfl rfl rfl n1 n2 hz w.heap.size w hb (Nat.le_refl _) ?_; intro v' w' hown hb'))
      go_ret
      refine ⟨v', rfl, ?_, hb'⟩
      rw [H1.out, splitL_none c _ (Lib.indexByte_none HE.out)]
      simpa [sv, bs_of] using hown
    · obtain ⟨o, e⟩ := Int.eq_ofNat_of_zero_le (by omega : 0 ≤ Lib.indexByte r.data.toList c)
      obtain ⟨e1, e2⟩ := Lib.indexByte_some e
      have ho : o < r.size := by have := len_data r; rcases Nat.lt_or_ge o r.data.toList.length with h | h; omega; rw [List.getElem?_eq_none h] at e1; cases e1
      have hx := fun w => idxByte r c w
      simp only [e] at hx
      have HX := Lib.hid hx; have HE1 := Lib.hid e1; have HE2 := Lib.hid e2; clear hx e hi hge e1 e2
      go_wp2_with (first | (go_at_call 37; refine (HX.out _).mono ?_; rintro e w' ⟨rfl, rfl⟩))
      have q1 : (0 : Int) ≤ (o : Int) := by omega
      have q2 : (o : Int) ≤ (r.size : Int) := by omega
      have q3 : IntKind.i64.wrap ((o : Int) + 1) = (o : Int) + 1 := IntWalk.i64_in _ (by omega)
      have q4 : (o : Int) + 1 ≤ (r.size : Int) := by omega
      have q5 : ((o : Int) + 1).toNat = o + 1 := by omega
      have q6 : (0 : Int) ≤ (o : Int) + 1 := by omega
      go_region_law (refine step_app (w := wr.drew) strRow rfl (.tmp 16) (.tmp 20) rfl w.heap.size u5 xs.length (xs.map sv) rfl h2 [_] rfl rfl rfl n1 n2 hz w.heap.size w hb.drew (Nat.le_refl _) ?_; intro v' w' hown hb')
      simp only [Act.put, List.setIfInBounds_toArray, List.set_cons_zero, List.set_cons_succ, List.getElem_cons_zero, List.getElem_cons_succ, List.getElem_toArray]
      go_wp2_with fail
      go_roundw
      case rel =>
        have he := extract_take r o
        have hd := extract_drop r (o + 1)
        refine ⟨_, rfl, by rw [hd, bs_size]; simp; omega, ⟨xs ++ [r.data.toList.take o], ?_, ?_, ?_⟩, hb'⟩
        · rw [H1.out, splitL_at c _ o HE1.out HE2.out, hd, bs_data]; simp
        · simp only [List.length_append, List.length_singleton, List.map_append, List.map_cons, List.map_nil]
          rw [he] at hown; exact hown
        · rw [hd, bs_size, len_data]; simp; omega
      case measure =>
        have hd := extract_drop r (o + 1)
        simp only [strLen]; rw [hd, bs_size]; simp; omega

/-- the reference's Split: what is cut already, up to place k, and from where on the next part begins -/
def RefSplitAt (W : World) (c : UInt8) (l : List UInt8) (k f : Nat) (v : Value) (wr : World) : Prop :=
  f ≤ k ∧ (∀ j : Nat, f ≤ j → j < k → l[j]? ≠ some c) ∧ ∃ xs : List (List UInt8), splitL c l = xs ++ splitL c (l.drop f) ∧ wr.ownsRow W.heap.size 9 1 v xs.length (xs.map sv) ∧ xs.length ≤ f
theorem drop_none {c : UInt8} {l : List UInt8} {f k : Nat} (h : ∀ j : Nat, f ≤ j → j < k → l[j]? ≠ some c) (hk : l.length ≤ k) : ∀ j : Nat, (l.drop f)[j]? ≠ some c := by
  intro j; rw [List.getElem?_drop]
  rcases Nat.lt_or_ge (f + j) k with h1 | h1
  · exact h _ (by omega) h1
  · rw [List.getElem?_eq_none (by omega)]; simp
set_option maxRecDepth 100000 in
set_option maxHeartbeats 1000000 in
theorem refSplit_any (s : ByteArray) (c : UInt8) (w : World) (hs : s.size ≤ 8000000000000) :
    Calls Tryz.prog 17 #[.string s, .int .u8 c.toNat] w (GivesStrs w (splitL c s.data.toList)) := by
  go_enter Tryz.func17, Tryz.ntmps17
  go_wp2_with fail
  go_loopw [7, 6, 5] (fun x y v wr => ∃ k f : Nat, x = .int .i64 k ∧ y = .int .i64 f ∧ k ≤ s.size ∧ f ≤ k ∧ Hid (RefSplitAt w c s.data.toList k f v wr) ∧ Below w.heap.size w wr) (fun x _ _ _ => s.size - (intOf x).toNat)
  case atStart => exact ⟨0, 0, rfl, rfl, Nat.zero_le _, Nat.le_refl _, ⟨Nat.le_refl _, fun j _ h => by omega, [], rfl, World.ownsRow_made w #[] 0 (Nat.le_refl _) (Nat.zero_le _) rfl, Nat.le_refl _⟩, (Below.refl _ _).alloc (Nat.le_refl _) _⟩
  case round =>
    obtain ⟨k, f, rfl, rfl, hk, hf, HS, hb⟩ := hrel
    obtain ⟨_, h0, xs, h1, h2, h3⟩ := HS.out
    have H1 := Lib.hid h1; have H0 := Lib.hid h0; clear h1 h0
    have n1 : (xs.length + 1) * 16 ≤ 140737488355328 := by omega
    have n2 : xs.length + 1 ≤ 140737488355328 := by omega
    have hz := hb.size
    by_cases hlt : k < s.size
    · by_cases hc : s[k] = c
      · have hq : ((s[k].toNat : Int) == (c.toNat : Int)) = true := by rw [hc]; simp
        have HC := Lib.hid hc; clear hc
        go_wp2_with (at_builtin; refine list_app strRow rfl (.tmp 20) (.tmp 25) rfl w.heap.size _ xs.length (xs.map sv) rfl h2 [_] rfl rfl rfl n1 n2 hz w.heap.size w hb (Nat.le_refl _) ?_; intro v' w' hown hb')
        go_roundw
        case rel =>
          have he := extract_mid s f k
          rw [he] at hown
          refine ⟨k + 1, k + 1, by go_num, by go_num, by omega, Nat.le_refl _, ⟨Nat.le_refl _, fun j h h' => by omega, xs ++ [(s.data.toList.drop f).take (k - f)], ?_, ?_, by simp; omega⟩, hb'⟩
          · rw [H1.out, splitL_at c (s.data.toList.drop f) (k - f) (by rw [List.getElem?_drop, show f + (k - f) = k from by omega, get_data s k hlt, HC.out]) (fun j hj => by
              rw [List.getElem?_drop]; exact H0.out _ (by omega) (by omega)), List.drop_drop, show f + (k - f + 1) = k + 1 from by omega]; simp
          · simpa [sv] using hown
        case measure => simp [intOf]; omega
      · have hq : ((s[k].toNat : Int) == (c.toNat : Int)) = false := by rw [byte_beq]; simpa using hc
        have HC := Lib.hid hc; clear hc
        go_wp2_with fail
        go_roundw
        case rel =>
          refine ⟨k + 1, f, by go_num, rfl, by omega, by omega, ⟨by omega, ?_, xs, H1.out, h2, h3⟩, hb⟩
          intro j h h'
          by_cases hj : j < k
          · exact H0.out j h hj
          · obtain rfl : j = k := by omega
            rw [get_data s j hlt]; simpa using HC.out
        case measure => simp [intOf]; omega
    · go_wp2_with (at_builtin; refine list_app strRow rfl (.tmp 29) (.tmp 33) rfl w.heap.size _ xs.length (xs.map sv) rfl h2 [_] rfl rfl rfl n1 n2 hz w.heap.size w hb (Nat.le_refl _) ?_; intro v' w' hown hb')
      go_ret
      refine ⟨v', rfl, ?_, hb'⟩
      have he := extract_drop s f
      rw [he] at hown
      rw [H1.out, splitL_none c _ (drop_none H0.out (by rw [len_data]; omega))]
      simpa [sv] using hown

/-- one byte of the given number in a new row, as a string -/
theorem conv1b (w : World) (c : UInt8) :
    (convert 96 9 (.slice (some ⟨w.heap.size, 0, none⟩) 1 1)).run Tryz.prog (w.alloc (.cells #[.int .u8 c.toNat] 5)) = .ok (.string (bs [c])) (w.alloc (.cells #[.int .u8 c.toNat] 5)) := by
  rw [conv1]; congr 3; simp
theorem join_any (v : Value) (l : List (List UInt8)) (c : UInt8) (w : World) (hN : l.length ≤ 140737488355328) (hv : Reads w v l.length 1 (l.map sv)) (hl : (joinL c l).length ≤ 140737488355328) :
    Calls Tryz.prog 62 #[v, .int .u8 c.toNat] w fun e w' => e = .returned (.string (bs (joinL c l))) ∧ Below w.heap.size w w' := by
  obtain ⟨_, _, hv⟩ := hv
  have kc := fun wx => conv1b wx c
  rcases hv with ⟨h0, a, k, rfl⟩ | ⟨hp, b, o, k, rfl, hk, hlt, hx⟩
  · have HJ := Lib.hid (fun w => Tryz.strings_Join_none a k (bs [c]) w)
    go_enter Tryz.func62, Tryz.ntmps62
    go_wp2_with (go_at_call 86; refine (HJ.out _).mono ?_; rintro e w' ⟨rfl, rfl⟩)
    go_ret
    refine ⟨ret_str ?_, (Below.refl _ _).alloc (Nat.le_refl _) _⟩
    rw [List.length_eq_zero_iff.1 h0]; rfl
  · have hj := Tryz.strings_Join b o k (l.map bs) (bs [c]) (w.alloc (.cells #[.int .u8 c.toNat] 5)) (by
      intro j x hj
      rw [List.getElem?_map, Option.map_eq_some_iff] at hj
      obtain ⟨y, hy, rfl⟩ := hj
      have := hx j (sv y) (by rw [List.getElem?_map, hy]; rfl)
      exact ((((Below.refl w.heap.size w).alloc (Nat.le_refl _) _).cell (p := ⟨b, o + j, none⟩) hlt).trans this)) (by simp; omega) (by simpa using hN) (by simpa using hk) (by rw [map_bs, bs_data]; exact hl)
    rw [map_bs, bs_data, List.length_map] at hj
    have HJ := Lib.hid hj; clear hj hx
    go_enter Tryz.func62, Tryz.ntmps62
    go_wp2_with (go_at_call 86; refine HJ.out.mono ?_; rintro e w' ⟨rfl, hb⟩)
    go_ret
    exact ⟨ret_str rfl, ((Below.refl _ _).alloc (Nat.le_refl _) _).trans (hb.mono (by simp))⟩
theorem row_any (v : Value) (l : List (List UInt8)) (w : World) (hN : l.length ≤ 140737488355328) (hv : Reads w v l.length 1 (l.map sv)) (hl : (joinL 32 l).length ≤ 140737488355328) :
    Calls Tryz.prog 30 #[v] w fun e w' => e = .returned (.string (bs (joinL 32 l))) ∧ Below w.heap.size w w' := by
  have HJ := Lib.hid (join_any v l 32 w hN hv hl)
  go_enter Tryz.func30, Tryz.ntmps30
  go_wp2_with (go_at_call 62; refine HJ.out.mono ?_; rintro e w' ⟨rfl, hb⟩)
  go_ret
  exact ⟨ret_str rfl, hb⟩
theorem gives_some {f : FuncId} {args : Array Value} {W : World} {l : List (List UInt8)} (hne : l ≠ []) (h : Calls Tryz.prog f args W (GivesStrs W l)) :
    Calls Tryz.prog f args W fun e w' => ∃ (g cap : Nat), l.length ≤ cap ∧ cap ≤ 9223372036854775807 ∧ e = .returned (.slice (some ⟨g, 0, none⟩) l.length cap) ∧ w'.ownsRow W.heap.size 9 1 (.slice (some ⟨g, 0, none⟩) l.length cap) l.length (l.map sv) ∧ Below W.heap.size W w' := by
  refine h.mono fun e w' ⟨v, he, hown, hb⟩ => ?_
  have ho := hown
  obtain ⟨h1, h2⟩ := hown
  rcases h2 with ⟨_, h0⟩ | ⟨g, cap, cur, hv, hg, hh, hn, hm, _⟩
  · exact absurd (List.length_eq_zero_iff.1 h0) hne
  · subst hv; exact ⟨g, cap, hn, by unfold maxLen at hm; omega, he, ho, hb⟩
/-! ### the reference's Join -/
theorem joinL_take (c : UInt8) (l : List (List UInt8)) (k : Nat) (h : k < l.length) (h0 : 0 < k) : joinL c (l.take (k + 1)) = joinL c (l.take k) ++ c :: l[k] := by
  rw [List.take_succ_eq_append_getElem h, joinL_snoc]
  intro e; have := congrArg List.length e; rw [List.length_take, List.length_nil] at this; omega
theorem joinL_take_le (c : UInt8) (l : List (List UInt8)) (k : Nat) (h : k < l.length) : (joinL c (l.take k)).length + l[k].length ≤ (joinL c (l.take (k + 1))).length := by
  rcases Nat.eq_zero_or_pos k with rfl | h0
  · rw [List.take_succ_eq_append_getElem h]; simp [joinL_nil, joinL_one]
  · rw [joinL_take c l k h h0, List.length_append, List.length_cons]; omega
theorem joinL_mono (c : UInt8) (l : List (List UInt8)) (k : Nat) (h : k ≤ l.length) : (joinL c (l.take k)).length ≤ (joinL c l).length := by
  have : ∀ d, k + d ≤ l.length → (joinL c (l.take k)).length ≤ (joinL c (l.take (k + d))).length := by
    intro d
    induction d with
    | zero => intro _; exact Nat.le_refl _
    | succ d ih =>
      intro hd
      have h1 := ih (by omega)
      have h2 := joinL_take_le c l (k + d) (by omega)
      rw [show k + (d + 1) = k + d + 1 from by omega]; omega
  have h1 := this (l.length - k) (by omega)
  rwa [show k + (l.length - k) = l.length from by omega, List.take_length] at h1
/-! ### are two lists of texts one? -/
end Go.Proofs.YtnohkfbapibmdaaGreat
namespace Go.Proofs.YtnohkfbapibmdaaGreat
open Go.RowKit

/-- a row of strings that a callee has made, told by its cells -/
theorem gives_row {f : FuncId} {args : Array Value} {W : World} {l : List (List UInt8)} (hne : l ≠ []) (h : Calls Tryz.prog f args W (GivesStrs W l)) :
    Calls Tryz.prog f args W fun e w' => ∃ (g cap : Nat), l.length ≤ cap ∧ cap ≤ 9223372036854775807 ∧ e = .returned (.slice (some ⟨g, 0, none⟩) l.length cap) ∧ g < w'.heap.size ∧ (∀ (j : Nat) (h : j < l.length), w'.cell? ⟨g, j, none⟩ = some (.string (bs l[j]))) ∧ Below W.heap.size W w' := by
  refine (gives_some hne h).mono fun e w' ⟨g, cap, h1, h2, h3, ho, hb⟩ => ?_
  obtain ⟨_, _, hr⟩ := owns_reads ho
  have hp := List.length_pos_iff.2 hne
  rcases hr with ⟨h0, _⟩ | ⟨_, b, o, c, hv, _, hlt, hx⟩
  · omega
  · cases hv
    refine ⟨g, cap, h1, h2, h3, hlt, fun j hj => ?_, hb⟩
    have := hx j (sv l[j]) (by rw [List.getElem?_map, List.getElem?_eq_getElem hj]; rfl)
    simpa [sv] using this
theorem v4_len_pos {L : List (List UInt8)} {k : Nat} (h : k < L.length) : L.drop k = L[k] :: L.drop (k + 1) := List.drop_eq_getElem_cons h
set_option maxRecDepth 100000 in
set_option maxHeartbeats 1000000 in
theorem v4Parse_any (s : ByteArray) (w : World) (hs : s.size ≤ 8000000000000) :
    Calls Tryz.prog 76 #[.string s] w fun e w' => e = .returned (.tuple #[.int .u32 (v4parse s.data.toList).1, .bool (v4parse s.data.toList).2]) ∧ Below w.heap.size w w' := by
  have hsp := fun w => gives_row (splitL_ne _ _) (split_any s 46 w hs)
  have hv4 : v4parse s.data.toList = if (splitL 46 s.data.toList).length ≠ 4 then (0, false) else match v4fold (splitL 46 s.data.toList) with | none => (0, false) | some n => (n, true) := rfl
  have hpl := fun x (hx : x ∈ splitL 46 s.data.toList) => splitL_part_len 46 s.data.toList x hx
  rw [len_data] at hpl
  generalize splitL 46 s.data.toList = S at hsp hv4 hpl
  have HSP := Lib.hid hsp; have HPL := Lib.hid hpl; clear hsp hpl
  by_cases h4 : S.length = 4
  · rw [if_neg (by simpa using h4)] at hv4
    have HV4 := Lib.hid hv4; clear hv4
    have hq : ((S.length : Int) != 4) = false := by rw [h4]; rfl
    have H4 := Lib.hid h4; clear h4
    go_enter Tryz.func76, Tryz.ntmps76
    go_wp2_with (go_at_call 13; refine (HSP.out _).mono ?_; rintro e w1 ⟨g, cap, hc1, hc2, rfl, hg, hr, b1⟩; have HR := Lib.hid hr; clear hr)
    go_loop [17, 5] (fun i n => ∃ k m : Nat, k ≤ S.length ∧ i = .int .i64 k ∧ n = .int .u32 m ∧ Hid (m < 256 ^ k) ∧ Hid (v4fold (S.take k) = some m)) (fun i _ => S.length - (intOf i).toNat)
    case atStart => exact ⟨0, 0, Nat.zero_le _, rfl, rfl, by unfold Hid; simp, by unfold Hid; simp [v4fold]⟩
    case round =>
      obtain ⟨k, m, hk, rfl, rfl, HM, HF⟩ := hrel
      by_cases hk2 : k < S.length
      · have c1 : w1.cell? ⟨g, k, none⟩ = some (.string (bs S[k])) := HR.out k hk2
        have hd := fun w => decParse_any (bs S[k]) 255 w (by rw [bs_size]; have := HPL.out _ (List.getElem_mem hk2); omega)
        simp only [bs_data] at hd
        have hb := dec255 S[k]
        have hm : m < 16777216 := by
          have : 256 ^ k ≤ 256 ^ 3 := Nat.pow_le_pow_right (by omega) (by have := H4.out; omega)
          have := HM.out; omega
        cases hok : (decParse S[k] 255).2 with
        | false =>
          have HS2 : Hid (v4parse s.data.toList = (0, false)) := by
            unfold Hid; rw [HV4.out]
            rw [← List.take_append_drop k S, v4_len_pos hk2, v4fold_stop _ _ _ hok]
          rw [hok] at hd
          have HD := Lib.hid hd; clear hd hok
          go_wp2_with (go_at_call 70; refine (HD.out _).mono ?_; rintro e w' ⟨rfl, rfl⟩)
          go_ret2
          exact ⟨by rw [HS2.out]; rfl, b1⟩
        | true =>
          rw [hok] at hd
          obtain ⟨b, hbe⟩ := Int.eq_ofNat_of_zero_le hb.1
          rw [hbe] at hd hb
          have hst : v4fold (S.take (k + 1)) = some (m * 256 + b) := by
            rw [List.take_succ_eq_append_getElem hk2, v4fold_snoc, HF.out]; unfold v4step; simp only; rw [if_pos hok, hbe]; rfl
          have hb2 : b ≤ 255 := by omega
          have hor := or8_u32 m b hm hb2
          have HD := Lib.hid hd; have HST := Lib.hid hst; clear hd hok hst hbe hb
          go_wp2_with (go_at_call 70; refine (HD.out _).mono ?_; rintro e w' ⟨rfl, rfl⟩)
          go_round
          case rel =>
            refine ⟨k + 1, m * 256 + b, by omega, by go_num, by go_num, ?_, HST.out⟩
            have := HM.out; unfold Hid; rw [Nat.pow_succ]; omega
          case measure => simp [intOf]; omega
      · have HS2 : Hid (v4parse s.data.toList = (m, true)) := by
          unfold Hid; rw [HV4.out]
          have := HF.out; rw [List.take_of_length_le (by omega)] at this; rw [this]
        go_wp2_with fail
        go_ret2
        exact ⟨by rw [HS2.out]; rfl, b1⟩
  · rw [if_pos h4] at hv4
    have HV4 := Lib.hid hv4; clear hv4
    have hq : ((S.length : Int) != 4) = true := by rw [bne_iff_ne]; omega
    go_enter Tryz.func76, Tryz.ntmps76
    go_wp2_with (go_at_call 13; refine (HSP.out _).mono ?_; rintro e w1 ⟨g, cap, hc1, hc2, rfl, hg, hr, b1⟩; have HR := Lib.hid hr; clear hr)
    go_ret2
    exact ⟨by rw [HV4.out]; rfl, b1⟩
set_option maxRecDepth 100000 in
set_option maxHeartbeats 1000000 in
theorem ref4Text_any (n : Nat) (hn : n < 4294967296) (w : World) :
    Calls Tryz.prog 64 #[.int .u32 n] w fun e w' => e = .returned (.string (bs (v4text n))) ∧ Below w.heap.size w w' := by
  have t1 := fun w => refText_any ((n : Int) / 16777216) (by omega) (by omega) w
  have t2 := fun w => refText_any ((n : Int) / 65536 % 256) (by omega) (by omega) w
  have t3 := fun w => refText_any ((n : Int) / 256 % 256) (by omega) (by omega) w
  have t4 := fun w => refText_any ((n : Int) % 256) (by omega) (by omega) w
  have dt : ∀ m : Nat, decText (m : Int) = digs m := fun m => by unfold decText; rw [if_neg (by omega)]; simp
  have e1 : decText ((n : Int) / 16777216) = digs (n / 16777216) := by rw [show (n : Int) / 16777216 = ((n / 16777216 : Nat) : Int) from by omega]; exact dt _
  have e2 : decText ((n : Int) / 65536 % 256) = digs (n / 65536 % 256) := by rw [show (n : Int) / 65536 % 256 = ((n / 65536 % 256 : Nat) : Int) from by omega]; exact dt _
  have e3 : decText ((n : Int) / 256 % 256) = digs (n / 256 % 256) := by rw [show (n : Int) / 256 % 256 = ((n / 256 % 256 : Nat) : Int) from by omega]; exact dt _
  have e4 : decText ((n : Int) % 256) = digs (n % 256) := by rw [show (n : Int) % 256 = ((n % 256 : Nat) : Int) from by omega]; exact dt _
  simp only [e1] at t1; simp only [e2] at t2; simp only [e3] at t3; simp only [e4] at t4
  have l1 := digs3 (n / 16777216) (by omega); have l2 := digs3 (n / 65536 % 256) (by omega); have l3 := digs3 (n / 256 % 256) (by omega); have l4 := digs3 (n % 256) (by omega)
  have HJ : Hid (v4text n = digs (n / 16777216) ++ 46 :: (digs (n / 65536 % 256) ++ 46 :: (digs (n / 256 % 256) ++ 46 :: digs (n % 256)))) := by
    unfold Hid v4text v4parts; rw [joinL_cons, joinL_cons, joinL_cons, joinL_one]
  generalize digs (n / 16777216) = d1 at *
  generalize digs (n / 65536 % 256) = d2 at *
  generalize digs (n / 256 % 256) = d3 at *
  generalize digs (n % 256) = d4 at *
  have T1 := Lib.hid t1; have T2 := Lib.hid t2; have T3 := Lib.hid t3; have T4 := Lib.hid t4
  have hd : (⟨#[46]⟩ : ByteArray) = bs [46] := rfl
  clear t1 t2 t3 t4 dt e1 e2 e3 e4
  have z0 : (bs [46]).size ≤ 1 := by rw [bs_size]; exact Nat.le_refl _
  rw [← bs_size] at l1 l2 l3 l4
  have s1 : ¬ 9223372036854775807 < (bs d1).size + (bs [46]).size := by omega
  have s2 : ¬ 9223372036854775807 < (bs d1).size + (bs [46]).size + (bs d2).size := by omega
  have s3 : ¬ 9223372036854775807 < (bs d1).size + (bs [46]).size + (bs d2).size + (bs [46]).size := by omega
  have s4 : ¬ 9223372036854775807 < (bs d1).size + (bs [46]).size + (bs d2).size + (bs [46]).size + (bs d3).size := by omega
  have s5 : ¬ 9223372036854775807 < (bs d1).size + (bs [46]).size + (bs d2).size + (bs [46]).size + (bs d3).size + (bs [46]).size := by omega
  have s6 : ¬ 9223372036854775807 < (bs d1).size + (bs [46]).size + (bs d2).size + (bs [46]).size + (bs d3).size + (bs [46]).size + (bs d4).size := by omega
  clear z0 l1 l2 l3 l4
  go_enter Tryz.func64, Tryz.ntmps64
  go_wp2_with (first
    | (go_at_call 36; (with_reducible refine (T1.out _).mono ?_); rintro e w1 ⟨rfl, b1⟩)
    | (go_at_call 36; (with_reducible refine (T2.out _).mono ?_); rintro e w2 ⟨rfl, b2⟩)
    | (go_at_call 36; (with_reducible refine (T3.out _).mono ?_); rintro e w3 ⟨rfl, b3⟩)
    | (go_at_call 36; (with_reducible refine (T4.out _).mono ?_); rintro e w4 ⟨rfl, b4⟩))
  go_ret
  exact ⟨ret_str (by rw [HJ.out]; simp [bs_append]), below4 b1 b2 b3 b4⟩

set_option maxRecDepth 100000 in
set_option maxHeartbeats 1000000 in
theorem ref4Parse_any (s : ByteArray) (w : World) (hs : s.size ≤ 8000000000000) :
    Calls Tryz.prog 44 #[.string s] w fun e w' => e = .returned (.tuple #[.int .u32 (v4parse s.data.toList).1, .bool (v4parse s.data.toList).2]) ∧ Below w.heap.size w w' := by
  have he := ref4_eq s.data.toList
  by_cases h1 : 15 < (s.size : Int)
  · rw [if_pos (Or.inl (by rw [len_data]; omega))] at he
    have HE := Lib.hid he; clear he
    go_enter Tryz.func44, Tryz.ntmps44
    go_wp2_with fail
    go_ret2
    exact ⟨by rw [← HE.out]; rfl, Below.refl _ _⟩
  have hsp := fun w => gives_row (splitL_ne _ _) (refSplit_any s 46 w hs)
  have hpl := fun x (hx : x ∈ splitL 46 s.data.toList) => splitL_part_len 46 s.data.toList x hx
  rw [len_data] at hpl
  generalize splitL 46 s.data.toList = S at hsp he hpl
  have HSP := Lib.hid hsp; have HPL := Lib.hid hpl; have HE := Lib.hid he; clear hsp hpl he
  go_enter Tryz.func44, Tryz.ntmps44
  go_wp2_with (go_at_call 17; refine (HSP.out _).mono ?_; rintro e w1 ⟨g, cap, hc1, hc2, rfl, hg, hr, b1⟩; have HR := Lib.hid hr; clear hr)
  go_loopw [6, 5] (fun i n wr => ∃ k : Nat, k ≤ S.length ∧ i = .int .i64 k ∧ n = .int .u32 (ref4fold (S.take k)) ∧ Below w1.heap.size w1 wr) (fun i _ _ => S.length - (intOf i).toNat)
  case atStart => exact ⟨0, Nat.zero_le _, rfl, rfl, Below.refl _ _⟩
  case round =>
    obtain ⟨k, hk, rfl, rfl, hb⟩ := hrel
    by_cases hk2 : k < S.length
    · have c1 : wr.cell? ⟨g, k, none⟩ = some (.string (bs S[k])) := keep hb hg (HR.out k hk2)
      have hd := fun w => refParse_any (bs S[k]) 255 w (by rw [bs_size]; have := HPL.out _ (List.getElem_mem hk2); omega) (by omega) (by omega)
      simp only [bs_data] at hd
      have hbd := dec255 S[k]
      have hst : ref4fold (S.take (k + 1)) = (256 * ref4fold (S.take k) + (decParse S[k] 255).1.toNat) % 4294967296 := by
        rw [List.take_succ_eq_append_getElem hk2, ref4fold_snoc]
      obtain ⟨b, hbe⟩ := Int.eq_ofNat_of_zero_le hbd.1
      rw [hbe] at hd hbd hst
      have hlt := ref4_lt (S.take k)
      generalize hm : ref4fold (S.take k) = m at *
      have hb2 : b ≤ 255 := by omega
      have HD := Lib.hid hd; have HST := Lib.hid hst; have HM := Lib.hid hm; clear hd hst hbe hbd hm
      go_wp2_with (go_at_call 20; refine (HD.out _).mono ?_; rintro e w2 ⟨rfl, b2⟩)
      go_roundw
      case rel =>
        refine ⟨k + 1, by omega, by go_num, ?_, below2 hb b2⟩
        rw [HST.out]; congr 1
        simp only [Int.toNat_natCast]; omega
      case measure => simp [intOf]; omega
    · have hfull : S.take k = S := List.take_of_length_le (by omega)
      have htx := fun w => ref4Text_any (ref4fold S) (ref4_lt S) w
      rw [hfull]
      generalize hm : ref4fold S = m at *
      have HTX := Lib.hid htx; have HM := Lib.hid hm; have HF := Lib.hid hfull; clear htx hm hfull
      by_cases ht : v4text m = s.data.toList
      · have hq : (!((bs (v4text m)).toList == s.toList)) = false := by rw [bs_toL, toL, ht]; simp
        have HT := Lib.hid ht; clear ht
        go_wp2_with (go_at_call 64; refine (HTX.out _).mono ?_; rintro e w2 ⟨rfl, b2⟩)
        go_ret2
        have := HE.out
        rw [if_neg (by rintro (h | h); rw [len_data] at h; omega; exact h HT.out)] at this
        exact ⟨by rw [← this]; rfl, below2 b1 (below2 hb b2)⟩
      · have hq : (!((bs (v4text m)).toList == s.toList)) = true := by rw [bs_toL, toL]; simpa using ht
        have HT := Lib.hid ht; clear ht
        go_wp2_with (go_at_call 64; refine (HTX.out _).mono ?_; rintro e w2 ⟨rfl, b2⟩)
        go_ret2
        have := HE.out
        rw [if_pos (Or.inr HT.out)] at this
        exact ⟨by rw [← this]; rfl, below2 b1 (below2 hb b2)⟩

theorem dec_dig (m : Nat) (w : World) (h : m ≤ 9223372036854775807) : Calls Tryz.prog 61 #[.int .i64 m] w fun e w' => e = .returned (.string (bs (digs m))) ∧ Below w.heap.size w w' := by
  have := decText_any (m : Int) (by omega) (by omega) w
  unfold decText at this; rw [if_neg (by omega)] at this; simpa using this
set_option maxRecDepth 100000 in
set_option maxHeartbeats 1000000 in
theorem v4Text_any (N : Nat) (hN : N < 4294967296) (w : World) :
    Calls Tryz.prog 85 #[.int .u32 N] w fun e w' => e = .returned (.string (bs (v4text N))) ∧ Below w.heap.size w w' := by
  have hN2 : (N : Int) ≤ 4294967295 := by omega
  go_enter Tryz.func85, Tryz.ntmps85
  go_wp2_with fail
  go_loopw [4, 0] (fun i n wr => ∃ (k m : Nat) (arr : List Value), k ≤ 4 ∧ i = .int .i64 ((k : Int) - 1) ∧ n = .int .u32 m ∧ m < 4294967296 ∧ Below w.heap.size w wr ∧ Hid (BlockIs wr w.heap.size arr 118) ∧ Hid (arr.length = 4) ∧ Hid (V4At N m k arr)) (fun i _ _ => (intOf i + 1).toNat)
  case atStart => exact ⟨4, N, List.replicate 4 (.string ⟨#[]⟩), Nat.le_refl _, rfl, rfl, hN, (Below.refl _ _).alloc (Nat.le_refl _) _, BlockIs.new w _ _, rfl, [], rfl, by simp⟩
  case round =>
    obtain ⟨k, m, arr, hk, rfl, rfl, hm, hb, HB, HL, HV⟩ := hrel
    by_cases hk0 : k = 0
    · have q : ¬ (0 : Int) ≤ (k : Int) - 1 := by omega
      have q2 : (k : Int) < 1 := by omega
      have HV0 : Hid (arr = (v4parts N).map sv) := by
        obtain ⟨acc, h1, h2⟩ := HV.out
        rw [hk0] at h1 h2
        rw [v4pk_parts N hN] at h2
        unfold Hid; rw [h2]; simpa [v4pk] using h1
      have hrd : Reads wr (.slice (some ⟨w.heap.size, 0, none⟩) 4 4) (v4parts N).length 1 ((v4parts N).map sv) := by
        refine ⟨by simp, by simp [v4parts], Or.inr ⟨by simp [v4parts], w.heap.size, 0, 4, rfl, Nat.le_refl _, HB.out.lt, fun j x hj => ?_⟩⟩
        rw [← HV0.out] at hj
        rw [Nat.zero_add]; exact HB.out.cell hj
      have hjo := join_any _ (v4parts N) 46 wr (by simp [v4parts]) hrd (by have := v4text_len N hN; unfold v4text at this; omega)
      have HJO := Lib.hid hjo; clear hjo hrd hk0
      go_wp2_with (go_at_call 62; refine HJO.out.mono ?_; rintro e w2 ⟨rfl, b2⟩)
      go_ret
      exact ⟨ret_str rfl, below2 hb b2⟩
    · obtain ⟨j, rfl⟩ : ∃ j, k = j + 1 := ⟨k - 1, by omega⟩
      have ha := and8_u32 m hm
      have htx := fun w => dec_dig (m % 256) w (by omega)
      simp only [show ((m % 256 : Nat) : Int) = (m : Int) % 256 from by omega] at htx
      rw [show (((j + 1 : Nat) : Int) - 1) = (j : Int) from by omega]
      have q0 : (0 : Int) ≤ (j : Int) := by omega
      have q4 : (j : Int) < 4 := by omega
      have hv : ∃ v0, arr[j]? = some v0 := ⟨_, List.getElem?_eq_getElem (by have := HL.out; omega)⟩
      obtain ⟨v0, hv0⟩ := hv
      have HTX := Lib.hid htx; clear htx hk0
      have hz := hb.size
      go_wp2_with (go_at_call 61; refine (HTX.out _).mono ?_; rintro e w2 ⟨rfl, b2⟩; have hB2 := HB.out.below b2; have c2 := hB2.cell hv0; have f2 := hB2.frozen j; have HB2 := Lib.hid hB2; clear hB2)
      go_roundw
      case rel => exact ⟨j, m / 256, _, by omega, rfl, by go_num, by omega, (below2 hb b2).setCell (Nat.le_refl _) _, HB2.out.set j _, by unfold Hid; rw [List.length_set]; exact HL.out, HV.out.step (by have := HL.out; omega)⟩
      case measure => simp [intOf]
end Go.Proofs.YtnohkfbapibmdaaGreat
