/- Texts put together: Words. No condition. -/
import Derived.Test.YtdmobgdgeiiicaaRqtzzyzrgmg
import Derived.Test.YtdmobgdgeiiicaaRqigdjmwvuu
import Derived.Test.YtdmobgdgeiiicaaRyobeaadgwb
import Derived.Test.YtdmobgdgeiiicaaRows
import Derived.Test.YtdmobgdgeiiicaaShelf
import Derived.WalkKit
import Derived.WalkSpells
import Derived.WalkLawsBesides
import Derived.WalkSmall
import Derived.BigGuardPart
import Derived.BigQuiet
import Derived.Deep.QuietTactic
import Derived.Deep.RegionLaw
import Derived.Deep.Light
namespace Go.Proofs.Ytdmobgdgeiiicaa
open Go.RowKit
attribute [local go_sem] w64_byte w64_byte_sub

theorem strRow : RowT Try.prog 48 9 1 16 := RowT.mk (.string ByteArray.empty) Try.underlying48 (by kernel_rfl) rfl (by omega)
theorem idxByte (s : ByteArray) (c : UInt8) (w : World) :
    Calls Try.prog 41 #[.string s, .int .u8 c.toNat] w fun e w' => e = .returned (.int .i64 (Lib.indexByte s.data.toList c)) ∧ w = w' := by
  refine (Try.strings_IndexByte s c.toNat w).mono fun e w' ⟨h1, h2⟩ => ⟨?_, h2.symm⟩
  rw [h1]; congr 2; simp

/-- what a function that hands back a row of strings of its own gives -/
def GivesStrs (W : World) (l : List (List UInt8)) (en : Ending) (w' : World) : Prop := ∃ v, en = .returned v ∧ w'.ownsRow W.heap.size 9 1 v l.length (l.map sv) ∧ Below W.heap.size W w'

/-- words.Split: what is cut already, and what is left -/
def SplitAt (W : World) (c : UInt8) (l : List UInt8) (r : ByteArray) (v : Value) (wr : World) : Prop :=
  ∃ xs : List (List UInt8), splitL c l = xs ++ splitL c r.data.toList ∧ wr.ownsRow W.heap.size 9 1 v xs.length (xs.map sv) ∧ xs.length + r.size ≤ l.length
set_option maxRecDepth 100000 in
set_option maxHeartbeats 1000000 in
theorem split_any (s : ByteArray) (c : UInt8) (w : World) (hs : s.size ≤ 8000000000000) :
    Calls Try.prog 22 #[.string s, .int .u8 c.toNat] w (GivesStrs w (splitL c s.data.toList)) := by
  go_enter Try.func22, Try.ntmps22
  go_wp2_with fail
  go_loopw [0, 5] (fun x v wr => ∃ r : ByteArray, x = .string r ∧ r.size ≤ s.size ∧ Hid (SplitAt w c s.data.toList r v wr) ∧ Below w.heap.size w wr) (fun x _ _ => strLen x)
  case atStart => exact ⟨s, rfl, Nat.le_refl _, ⟨[], rfl, World.ownsRow_nil _ _ _ _, by simp⟩, Below.refl _ _⟩
  case round =>
    obtain ⟨r, rfl, hr, HS, hb⟩ := hrel
    obtain ⟨xs, h1, h2, h3⟩ := HS.out
    rw [len_data] at h3
    have H1 := Lib.hid h1; clear h1
    have n1 : (xs.length + 1) * 16 ≤ 140737488355328 := by omega
    have n2 : xs.length + 1 ≤ 140737488355328 := by omega
    have hz := hb.size
    have hge := Lib.indexByte_ge r.data.toList c
    by_cases hi : Lib.indexByte r.data.toList c < 0
    · have e : Lib.indexByte r.data.toList c = -1 := by omega
      have hx := fun w => idxByte r c w
      simp only [e] at hx
      have HX := Lib.hid hx; have HE := Lib.hid e; clear hx e hi hge
      go_wp2_with (first | (go_at_call 41; refine (HX.out _).mono ?_; rintro e w' ⟨rfl, rfl⟩) | (at_builtin; refine list_app strRow rfl (.tmp 12) (.tmp 14) rfl w.heap.size _ xs.length (xs.map sv) rfl h2 [.string r] rfl rfl rfl n1 n2 hz w.heap.size w hb (Nat.le_refl _) ?_; intro v' w' hown hb'))
      go_ret
      refine ⟨v', rfl, ?_, hb'⟩
      rw [H1.out, splitL_none c _ (Lib.indexByte_none HE.out)]
      simpa [sv, bs_of] using hown
    · obtain ⟨o, e⟩ := Int.eq_ofNat_of_zero_le (by omega : 0 ≤ Lib.indexByte r.data.toList c)
      obtain ⟨e1, e2⟩ := Lib.indexByte_some e
      have ho : o < r.size := by have := len_data r; rcases Nat.lt_or_ge o r.data.toList.length with h | h; omega; rw [List.getElem?_eq_none h] at e1; cases e1
      have hx := fun w => idxByte r c w
      simp only [e] at hx
      have HX := Lib.hid hx; have HE1 := Lib.hid e1; have HE2 := Lib.hid e2; clear hx e hi hge e1 e2
      go_wp2_with (first | (go_at_call 41; refine (HX.out _).mono ?_; rintro e w' ⟨rfl, rfl⟩))
      have q1 : (0 : Int) ≤ (o : Int) := by omega
      have q2 : (o : Int) ≤ (r.size : Int) := by omega
      have q3 : IntKind.i64.wrap ((o : Int) + 1) = (o : Int) + 1 := IntWalk.i64_in _ (by omega)
      have q4 : (o : Int) + 1 ≤ (r.size : Int) := by omega
      have q5 : ((o : Int) + 1).toNat = o + 1 := by omega
      have q6 : (0 : Int) ≤ (o : Int) + 1 := by omega
      go_region_law (refine step_app (w := wr.drew) strRow rfl (.tmp 16) (.tmp 20) rfl w.heap.size u5 xs.length (xs.map sv) rfl h2 [_] rfl rfl rfl n1 n2 hz w.heap.size w hb.drew (Nat.le_refl _) ?_; intro v' w' hown hb')
      simp only [Act.put, List.setIfInBounds_toArray, List.set_cons_zero, List.set_cons_succ, List.getElem_cons_zero, List.getElem_cons_succ, List.getElem_toArray]
      go_wp2_with fail
      go_roundw
      case rel =>
        have he := extract_take r o
        have hd := extract_drop r (o + 1)
        refine ⟨_, rfl, by rw [hd, bs_size]; simp; omega, ⟨xs ++ [r.data.toList.take o], ?_, ?_, ?_⟩, hb'⟩
        · rw [H1.out, splitL_at c _ o HE1.out HE2.out, hd, bs_data]; simp
        · simp only [List.length_append, List.length_singleton, List.map_append, List.map_cons, List.map_nil]
          rw [he] at hown; exact hown
        · rw [hd, bs_size, len_data]; simp; omega
      case measure =>
        have hd := extract_drop r (o + 1)
        simp only [strLen]; rw [hd, bs_size]; simp; omega

/-- one byte of the given number in a new row, as a string -/
theorem conv1b (w : World) (c : UInt8) :
    (convert 65 9 (.slice (some ⟨w.heap.size, 0, none⟩) 1 1)).run Try.prog (w.alloc (.cells #[.int .u8 c.toNat] 5)) = .ok (.string (bs [c])) (w.alloc (.cells #[.int .u8 c.toNat] 5)) := by
  rw [conv1]; congr 3; simp
theorem join_any (v : Value) (l : List (List UInt8)) (c : UInt8) (w : World) (hN : l.length ≤ 140737488355328) (hv : Reads w v l.length 1 (l.map sv)) (hl : (joinL c l).length ≤ 140737488355328) :
    Calls Try.prog 48 #[v, .int .u8 c.toNat] w fun e w' => e = .returned (.string (bs (joinL c l))) ∧ Below w.heap.size w w' := by
  obtain ⟨_, _, hv⟩ := hv
  have kc := fun wx => conv1b wx c
  rcases hv with ⟨h0, a, k, rfl⟩ | ⟨hp, b, o, k, rfl, hk, hlt, hx⟩
  · have HJ := Lib.hid (fun w => Try.strings_Join_none a k (bs [c]) w)
    go_enter Try.func48, Try.ntmps48
    go_wp2_with (go_at_call 78; refine (HJ.out _).mono ?_; rintro e w' ⟨rfl, rfl⟩)
    go_ret
    refine ⟨ret_str ?_, (Below.refl _ _).alloc (Nat.le_refl _) _⟩
    rw [List.length_eq_zero_iff.1 h0]; rfl
  · have hj := Try.strings_Join b o k (l.map bs) (bs [c]) (w.alloc (.cells #[.int .u8 c.toNat] 5)) (by
      intro j x hj
      rw [List.getElem?_map, Option.map_eq_some_iff] at hj
      obtain ⟨y, hy, rfl⟩ := hj
      have := hx j (sv y) (by rw [List.getElem?_map, hy]; rfl)
      exact ((((Below.refl w.heap.size w).alloc (Nat.le_refl _) _).cell (p := ⟨b, o + j, none⟩) hlt).trans this)) (by simp; omega) (by simpa using hN) (by simpa using hk) (by rw [map_bs, bs_data]; exact hl)
    rw [map_bs, bs_data, List.length_map] at hj
    have HJ := Lib.hid hj; clear hj hx
    go_enter Try.func48, Try.ntmps48
    go_wp2_with (go_at_call 78; refine HJ.out.mono ?_; rintro e w' ⟨rfl, hb⟩)
    go_ret
    exact ⟨ret_str rfl, ((Below.refl _ _).alloc (Nat.le_refl _) _).trans (hb.mono (by simp))⟩
theorem row_any (v : Value) (l : List (List UInt8)) (w : World) (hN : l.length ≤ 140737488355328) (hv : Reads w v l.length 1 (l.map sv)) (hl : (joinL 32 l).length ≤ 140737488355328) :
    Calls Try.prog 25 #[v] w fun e w' => e = .returned (.string (bs (joinL 32 l))) ∧ Below w.heap.size w w' := by
  have HJ := Lib.hid (join_any v l 32 w hN hv hl)
  go_enter Try.func25, Try.ntmps25
  go_wp2_with (go_at_call 48; refine HJ.out.mono ?_; rintro e w' ⟨rfl, hb⟩)
  go_ret
  exact ⟨ret_str rfl, hb⟩
theorem plain_any (c : UInt8) (w : World) : Calls Try.prog 65 #[.int .u8 c.toNat] w fun e w' => e = .returned (.bool (plainC c)) ∧ w = w' := by
  go_enter Try.func65, Try.ntmps65
  go_wp2
  all_goals (go_ret; refine ⟨ret_bool ?_, rfl⟩; rw [Bool.eq_iff_iff]; simp [plainC]; omega)

theorem conv10 (w : World) :
    (convert 65 9 (.slice (some ⟨w.heap.size, 0, none⟩) 1 1)).run Try.prog (w.alloc (.cells #[.int .u8 10] 5)) = .ok (.string (bs [10])) (w.alloc (.cells #[.int .u8 10] 5)) := conv1b w 10
/-- lines, and which error there is -/
def GivesLines (W : World) (k : IntKind) (r : List (List UInt8) × Int) (en : Ending) (w' : World) : Prop := ∃ v, en = .returned (.tuple #[v, .int k r.2]) ∧ w'.ownsRow W.heap.size 9 1 v r.1.length (r.1.map sv) ∧ Below W.heap.size W w'
theorem gives_none {W w' : World} {k : IntKind} {r : List (List UInt8) × Int} {n : Int} (h : r = ([], n)) (hb : Below W.heap.size W w') : GivesLines W k r (.returned (.tuple #[.slice none 0 0, .int k n])) w' :=
  ⟨.slice none 0 0, by rw [h], by rw [h]; exact World.ownsRow_nil _ _ _ _, hb⟩
set_option maxRecDepth 100000 in
set_option maxHeartbeats 1000000 in
theorem lines_any (s : ByteArray) (w : World) (hs : s.size ≤ 8000000000000) :
    Calls Try.prog 37 #[.string s] w (GivesLines w .i64 (linesL s.data.toList)) := by
  have kc := fun wx => conv10 wx
  by_cases h1 : 65536 < (s.size : Int)
  · have e : linesL s.data.toList = ([], 4) := by unfold linesL; rw [if_pos (Or.inl (by rw [len_data]; omega))]
    have HE := Lib.hid e; clear e
    go_enter Try.func37, Try.ntmps37
    go_wp2_with fail
    go_ret2
    exact gives_none HE.out (Below.refl _ _)
  have hcnt := fun w => Try.strings_Count_one s 10 w
  rw [show (⟨#[10]⟩ : ByteArray) = bs [10] from rfl] at hcnt
  generalize hn : Lib.countByte s.data.toList 10 = N at hcnt
  have HC := Lib.hid hcnt; clear hcnt
  have hcl : N ≤ s.size := by rw [← hn, ← len_data]; exact List.count_le_length
  have HN := Lib.hid hn; clear hn
  have hB : ∀ o, Below w.heap.size w (w.alloc o) := fun o => (Below.refl _ _).alloc (Nat.le_refl _) _
  have HB := Lib.hid hB; clear hB
  by_cases h2 : 4096 < (N : Int)
  · have e : linesL s.data.toList = ([], 4) := by unfold linesL; rw [if_pos (Or.inr (by have := HN.out; unfold Lib.countByte at this; omega))]
    have HE := Lib.hid e; clear e
    go_enter Try.func37, Try.ntmps37
    go_wp2_with (go_at_call 64; refine (HC.out _).mono ?_; rintro e w' ⟨rfl, rfl⟩)
    go_ret2
    exact gives_none HE.out (HB.out _)
  have HA : Hid (¬ (65536 < s.data.toList.length ∨ 4096 < s.data.toList.count 10)) := by
    have := HN.out; unfold Lib.countByte at this; unfold Hid; rw [len_data]; omega
  go_enter Try.func37, Try.ntmps37
  go_wp2_with (go_at_call 64; refine (HC.out _).mono ?_; rintro e w' ⟨rfl, rfl⟩)
  go_loop [17] (fun i => ∃ k : Nat, k ≤ s.size ∧ i = .int .i64 k ∧ Hid ((s.data.toList.take k).all plainC = true)) (fun i => s.size - (intOf i).toNat)
  case atStart => exact ⟨0, Nat.zero_le _, rfl, rfl⟩
  case round =>
    obtain ⟨k, hk, rfl, HP⟩ := hrel
    by_cases hlt : k < s.size
    · have hpl := fun w => plain_any s[k] w
      cases hpc : plainC s[k] with
      | false =>
        simp only [hpc] at hpl
        have HPL := Lib.hid hpl; have HPC := Lib.hid hpc; clear hpl hpc
        go_wp2_with (go_at_call 65; refine (HPL.out _).mono ?_; rintro e w' ⟨rfl, rfl⟩)
        go_ret2
        refine gives_none ?_ (HB.out _)
        unfold linesL; rw [if_neg HA.out, if_pos]
        rw [List.all_eq_false]; exact ⟨s[k], List.mem_of_getElem? (get_data s k hlt), by rw [HPC.out]; simp⟩
      | true =>
        simp only [hpc] at hpl
        have HPL := Lib.hid hpl; have HPC := Lib.hid hpc; clear hpl hpc
        go_wp2_with (go_at_call 65; refine (HPL.out _).mono ?_; rintro e w' ⟨rfl, rfl⟩)
        go_round
        case rel =>
          refine ⟨k + 1, by omega, by go_num, ?_⟩
          unfold Hid; rw [take_snoc s k hlt, List.all_append, HP.out]; simp [HPC.out]
        case measure => simp [intOf]; omega
    · have HPA : Hid (s.data.toList.all plainC = true) := by have := HP.out; rwa [List.take_of_length_le (by rw [len_data]; omega)] at this
      by_cases h0 : s.size = 0
      · have he : s.toList.isEmpty = true := by rw [isE, List.isEmpty_iff]; exact List.eq_nil_of_length_eq_zero (by rw [len_data]; exact h0)
        have e : linesL s.data.toList = ([], 0) := by
          unfold linesL; rw [if_neg HA.out, if_neg (by rw [HPA.out]; simp), if_pos]
          rw [isE, List.isEmpty_iff] at he; exact he
        have HE := Lib.hid e; clear e h0
        go_wp2_with fail
        go_ret2
        exact gives_none HE.out (HB.out _)
      have hne : s.data.toList ≠ [] := fun e => h0 (by rw [← len_data, e]; rfl)
      have he : s.toList.isEmpty = false := by rw [isE]; simpa using hne
      have hlast := last_data s (by omega)
      have q1 : (s.size : Int) - 1 < s.size := by omega
      have q0 : s.size - 1 < s.size := by omega
      have q2 : 1 ≤ (s.size : Int) := by omega
      have HNE := Lib.hid hne; clear hne
      by_cases hc : s[s.size - 1] = 10
      · have hq : ((s[s.size - 1].toNat : Int) == 10) = true := by rw [hc]; rfl
        have HC2 := Lib.hid hc; have HL := Lib.hid hlast; clear hc hlast
        have hsp := fun w => split_any (bs s.data.toList.dropLast) 10 w (by rw [bs_size, List.length_dropLast, len_data]; omega)
        have hex : s.extract 0 (s.size - 1) = bs s.data.toList.dropLast := by rw [extract_take, List.dropLast_eq_take, len_data]
        rw [← hex] at hsp
        have HSP := Lib.hid hsp; have HEX := Lib.hid hex; clear hsp hex
        go_wp2_with (go_at_call 22; refine (HSP.out _).mono ?_; rintro e w' ⟨v, rfl, hown, hb⟩)
        go_ret2
        have e : linesL s.data.toList = (splitL 10 s.data.toList.dropLast, 0) := by
          unfold linesL; rw [if_neg HA.out, if_neg (by rw [HPA.out]; simp), if_neg HNE.out, if_neg (by rw [HL.out, HC2.out]; simp)]
        rw [HEX.out, bs_data] at hown
        exact ⟨v, by rw [e]; rfl, by rw [e]; exact owns_base hown (by simp), (HB.out _).trans (hb.mono (by simp))⟩
      · have hq : ((s[s.size - 1].toNat : Int) == 10) = false := by
          rw [beq_eq_false_iff_ne]; intro h; exact hc (byte_eq (by rw [h]; rfl))
        have HC2 := Lib.hid hc; have HL := Lib.hid hlast; clear hc hlast
        go_wp2_with fail
        go_ret2
        refine gives_none ?_ (HB.out _)
        unfold linesL; rw [if_neg HA.out, if_neg (by rw [HPA.out]; simp), if_neg HNE.out, if_pos]
        rw [HL.out]; simpa using HC2.out

theorem gives_some {f : FuncId} {args : Array Value} {W : World} {l : List (List UInt8)} (hne : l ≠ []) (h : Calls Try.prog f args W (GivesStrs W l)) :
    Calls Try.prog f args W fun e w' => ∃ (g cap : Nat), l.length ≤ cap ∧ cap ≤ 9223372036854775807 ∧ e = .returned (.slice (some ⟨g, 0, none⟩) l.length cap) ∧ w'.ownsRow W.heap.size 9 1 (.slice (some ⟨g, 0, none⟩) l.length cap) l.length (l.map sv) ∧ Below W.heap.size W w' := by
  refine h.mono fun e w' ⟨v, he, hown, hb⟩ => ?_
  have ho := hown
  obtain ⟨h1, h2⟩ := hown
  rcases h2 with ⟨_, h0⟩ | ⟨g, cap, cur, hv, hg, hh, hn, hm, _⟩
  · exact absurd (List.length_eq_zero_iff.1 h0) hne
  · subst hv; exact ⟨g, cap, hn, by unfold maxLen at hm; omega, he, ho, hb⟩
/-! ### the reference's Join -/
/-! ### are two lists of texts one? -/
end Go.Proofs.Ytdmobgdgeiiicaa
