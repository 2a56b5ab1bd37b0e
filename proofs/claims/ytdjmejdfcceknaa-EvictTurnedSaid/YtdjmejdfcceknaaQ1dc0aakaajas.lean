/- Texts put together: Words, Ip4. No condition. -/
import Derived.Test.YtdjmejdfcceknaaRows
import Derived.Test.YtdjmejdfcceknaaQba21a9hbayfa
import Derived.Test.YtdjmejdfcceknaaQd16f6cudkebv
import Derived.Test.YtdjmejdfcceknaaShelf
import Derived.Test.YtdjmejdfcceknaaDec
import Derived.WalkKit
import Derived.WalkSpells
import Derived.WalkLawsBesides
import Derived.WalkSmall
import Derived.BigGuardPart
import Derived.BigQuiet
import Derived.Deep.QuietTactic
import Derived.Deep.RegionLaw
import Derived.Deep.Light
import Derived.Test.YtdjmejdfcceknaaPlBits
/- The contracts of words and of its reference. -/
namespace Go.Proofs.Ytdjmejdfcceknaa
open Go.RowKit
attribute [local go_sem] w64_byte w64_byte_sub

theorem strRow : RowT Try.prog 110 9 1 16 := RowT.mk (.string ByteArray.empty) Try.underlying110 (by kernel_rfl) rfl (by omega)
/-- what a function that hands back a row of strings of its own gives -/
def GivesStrs (W : World) (l : List (List UInt8)) (en : Ending) (w' : World) : Prop := ∃ v, en = .returned v ∧ w'.ownsRow W.heap.size 9 1 v l.length (l.map sv) ∧ Below W.heap.size W w'

/-- words.Split: what is cut already, and what is left -/
def SplitAt (W : World) (c : UInt8) (l : List UInt8) (r : ByteArray) (v : Value) (wr : World) : Prop :=
  ∃ xs : List (List UInt8), splitL c l = xs ++ splitL c r.data.toList ∧ wr.ownsRow W.heap.size 9 1 v xs.length (xs.map sv) ∧ xs.length + r.size ≤ l.length
/-- the reference's Split: what is cut already, up to place k, and from where on the next part begins -/
def RefSplitAt (W : World) (c : UInt8) (l : List UInt8) (k f : Nat) (v : Value) (wr : World) : Prop :=
  f ≤ k ∧ (∀ j : Nat, f ≤ j → j < k → l[j]? ≠ some c) ∧ ∃ xs : List (List UInt8), splitL c l = xs ++ splitL c (l.drop f) ∧ wr.ownsRow W.heap.size 9 1 v xs.length (xs.map sv) ∧ xs.length ≤ f
theorem drop_none {c : UInt8} {l : List UInt8} {f k : Nat} (h : ∀ j : Nat, f ≤ j → j < k → l[j]? ≠ some c) (hk : l.length ≤ k) : ∀ j : Nat, (l.drop f)[j]? ≠ some c := by
  intro j; rw [List.getElem?_drop]
  rcases Nat.lt_or_ge (f + j) k with h1 | h1
  · exact h _ (by omega) h1
  · rw [List.getElem?_eq_none (by omega)]; simp
/-- one byte of the given number in a new row, as a string -/
theorem conv1b (w : World) (c : UInt8) :
    (convert 115 9 (.slice (some ⟨w.heap.size, 0, none⟩) 1 1)).run Try.prog (w.alloc (.cells #[.int .u8 c.toNat] 5)) = .ok (.string (bs [c])) (w.alloc (.cells #[.int .u8 c.toNat] 5)) := by
  rw [conv1]; congr 3; simp
theorem join_any (v : Value) (l : List (List UInt8)) (c : UInt8) (w : World) (hN : l.length ≤ 140737488355328) (hv : Reads w v l.length 1 (l.map sv)) (hl : (joinL c l).length ≤ 140737488355328) :
    Calls Try.prog 109 #[v, .int .u8 c.toNat] w fun e w' => e = .returned (.string (bs (joinL c l))) ∧ Below w.heap.size w w' := by
  obtain ⟨_, _, hv⟩ := hv
  have kc := fun wx => conv1b wx c
  rcases hv with ⟨h0, a, k, rfl⟩ | ⟨hp, b, o, k, rfl, hk, hlt, hx⟩
  · have HJ := Lib.hid (fun w => Try.strings_Join_none a k (bs [c]) w)
    go_enter Try.func109, Try.ntmps109
    go_wp2_with (go_at_call 124; refine (HJ.out _).mono ?_; rintro e w' ⟨rfl, rfl⟩)
    go_ret
    refine ⟨ret_str ?_, (Below.refl _ _).alloc (Nat.le_refl _) _⟩
    rw [List.length_eq_zero_iff.1 h0]; rfl
  · have hj := Try.strings_Join b o k (l.map bs) (bs [c]) (w.alloc (.cells #[.int .u8 c.toNat] 5)) (by
      intro j x hj
      rw [List.getElem?_map, Option.map_eq_some_iff] at hj
      obtain ⟨y, hy, rfl⟩ := hj
      have := hx j (sv y) (by rw [List.getElem?_map, hy]; rfl)
      exact ((((Below.refl w.heap.size w).alloc (Nat.le_refl _) _).cell (p := ⟨b, o + j, none⟩) hlt).trans this)) (by simp; omega) (by simpa using hN) (by simpa using hk) (by rw [map_bs, bs_data]; exact hl)
    rw [map_bs, bs_data, List.length_map] at hj
    have HJ := Lib.hid hj; clear hj hx
    go_enter Try.func109, Try.ntmps109
    go_wp2_with (go_at_call 124; refine HJ.out.mono ?_; rintro e w' ⟨rfl, hb⟩)
    go_ret
    exact ⟨ret_str rfl, ((Below.refl _ _).alloc (Nat.le_refl _) _).trans (hb.mono (by simp))⟩
theorem row_any (v : Value) (l : List (List UInt8)) (w : World) (hN : l.length ≤ 140737488355328) (hv : Reads w v l.length 1 (l.map sv)) (hl : (joinL 32 l).length ≤ 140737488355328) :
    Calls Try.prog 79 #[v] w fun e w' => e = .returned (.string (bs (joinL 32 l))) ∧ Below w.heap.size w w' := by
  have HJ := Lib.hid (join_any v l 32 w hN hv hl)
  go_enter Try.func79, Try.ntmps79
  go_wp2_with (go_at_call 109; refine HJ.out.mono ?_; rintro e w' ⟨rfl, hb⟩)
  go_ret
  exact ⟨ret_str rfl, hb⟩
theorem conv10 (w : World) :
    (convert 115 9 (.slice (some ⟨w.heap.size, 0, none⟩) 1 1)).run Try.prog (w.alloc (.cells #[.int .u8 10] 5)) = .ok (.string (bs [10])) (w.alloc (.cells #[.int .u8 10] 5)) := conv1b w 10
/-- lines, and which error there is -/
def GivesLines (W : World) (k : IntKind) (r : List (List UInt8) × Int) (en : Ending) (w' : World) : Prop := ∃ v, en = .returned (.tuple #[v, .int k r.2]) ∧ w'.ownsRow W.heap.size 9 1 v r.1.length (r.1.map sv) ∧ Below W.heap.size W w'
theorem gives_none {W w' : World} {k : IntKind} {r : List (List UInt8) × Int} {n : Int} (h : r = ([], n)) (hb : Below W.heap.size W w') : GivesLines W k r (.returned (.tuple #[.slice none 0 0, .int k n])) w' :=
  ⟨.slice none 0 0, by rw [h], by rw [h]; exact World.ownsRow_nil _ _ _ _, hb⟩
theorem gives_some {f : FuncId} {args : Array Value} {W : World} {l : List (List UInt8)} (hne : l ≠ []) (h : Calls Try.prog f args W (GivesStrs W l)) :
    Calls Try.prog f args W fun e w' => ∃ (g cap : Nat), l.length ≤ cap ∧ cap ≤ 9223372036854775807 ∧ e = .returned (.slice (some ⟨g, 0, none⟩) l.length cap) ∧ w'.ownsRow W.heap.size 9 1 (.slice (some ⟨g, 0, none⟩) l.length cap) l.length (l.map sv) ∧ Below W.heap.size W w' := by
  refine h.mono fun e w' ⟨v, he, hown, hb⟩ => ?_
  have ho := hown
  obtain ⟨h1, h2⟩ := hown
  rcases h2 with ⟨_, h0⟩ | ⟨g, cap, cur, hv, hg, hh, hn, hm, _⟩
  · exact absurd (List.length_eq_zero_iff.1 h0) hne
  · subst hv; exact ⟨g, cap, hn, by unfold maxLen at hm; omega, he, ho, hb⟩
theorem bad_not {c : UInt8} (h : (c.toNat : Int) < 32 ∨ 126 < (c.toNat : Int)) (hc : c ≠ 10) : plainC c = false := by
  have : c.toNat ≠ 10 := fun e => hc (UInt8.toNat_inj.1 e)
  unfold plainC; simp; omega
theorem good_is {c : UInt8} (h : 32 ≤ (c.toNat : Int)) (h2 : (c.toNat : Int) ≤ 126) : plainC c = true := by
  unfold plainC; simp; omega
/-! ### the reference's Join -/
theorem strs_at {w : World} {b o n : Nat} {l : List (List UInt8)} (h : ∀ (j : Nat) (x : Value), (l.map sv)[j]? = some x → w.cell? ⟨b, o + j, none⟩ = some x) (k : Nat) (hk : k < l.length) : w.cell? ⟨b, o + k, none⟩ = some (.string (bs l[k])) :=
  h k _ (by rw [List.getElem?_map, List.getElem?_eq_getElem hk]; rfl)
theorem joinL_take (c : UInt8) (l : List (List UInt8)) (k : Nat) (h : k < l.length) (h0 : 0 < k) : joinL c (l.take (k + 1)) = joinL c (l.take k) ++ c :: l[k] := by
  rw [List.take_succ_eq_append_getElem h, joinL_snoc]
  intro e; have := congrArg List.length e; rw [List.length_take, List.length_nil] at this; omega
theorem joinL_take_le (c : UInt8) (l : List (List UInt8)) (k : Nat) (h : k < l.length) : (joinL c (l.take k)).length + l[k].length ≤ (joinL c (l.take (k + 1))).length := by
  rcases Nat.eq_zero_or_pos k with rfl | h0
  · rw [List.take_succ_eq_append_getElem h]; simp [joinL_nil, joinL_one]
  · rw [joinL_take c l k h h0, List.length_append, List.length_cons]; omega
theorem joinL_mono (c : UInt8) (l : List (List UInt8)) (k : Nat) (h : k ≤ l.length) : (joinL c (l.take k)).length ≤ (joinL c l).length := by
  have : ∀ d, k + d ≤ l.length → (joinL c (l.take k)).length ≤ (joinL c (l.take (k + d))).length := by
    intro d
    induction d with
    | zero => intro _; exact Nat.le_refl _
    | succ d ih =>
      intro hd
      have h1 := ih (by omega)
      have h2 := joinL_take_le c l (k + d) (by omega)
      rw [show k + (d + 1) = k + d + 1 from by omega]; omega
  have h1 := this (l.length - k) (by omega)
  rwa [show k + (l.length - k) = l.length from by omega, List.take_length] at h1
/-! ### are two lists of texts one? -/
end Go.Proofs.Ytdjmejdfcceknaa
/- The contracts of ipv4 and of its reference. -/
namespace Go.Proofs.Ytdjmejdfcceknaa
open Go.RowKit

/-- a row of strings that a callee has made, told by its cells -/
theorem gives_row {f : FuncId} {args : Array Value} {W : World} {l : List (List UInt8)} (hne : l ≠ []) (h : Calls Try.prog f args W (GivesStrs W l)) :
    Calls Try.prog f args W fun e w' => ∃ (g cap : Nat), l.length ≤ cap ∧ cap ≤ 9223372036854775807 ∧ e = .returned (.slice (some ⟨g, 0, none⟩) l.length cap) ∧ g < w'.heap.size ∧ (∀ (j : Nat) (h : j < l.length), w'.cell? ⟨g, j, none⟩ = some (.string (bs l[j]))) ∧ Below W.heap.size W w' := by
  refine (gives_some hne h).mono fun e w' ⟨g, cap, h1, h2, h3, ho, hb⟩ => ?_
  obtain ⟨_, _, hr⟩ := owns_reads ho
  have hp := List.length_pos_iff.2 hne
  rcases hr with ⟨h0, _⟩ | ⟨_, b, o, c, hv, _, hlt, hx⟩
  · omega
  · cases hv
    refine ⟨g, cap, h1, h2, h3, hlt, fun j hj => ?_, hb⟩
    have := hx j (sv l[j]) (by rw [List.getElem?_map, List.getElem?_eq_getElem hj]; rfl)
    simpa [sv] using this
theorem v4_len_pos {L : List (List UInt8)} {k : Nat} (h : k < L.length) : L.drop k = L[k] :: L.drop (k + 1) := List.drop_eq_getElem_cons h
theorem ret_nb {k : IntKind} {a b : Int} {x y : Bool} (h : a = b) (g : x = y) : Ending.returned (.tuple #[.int k a, .bool x]) = .returned (.tuple #[.int k b, .bool y]) := by rw [h, g]

theorem cat3 {a b : List UInt8} {n m : Nat} (ha : a.length ≤ n) (hb : b.length ≤ m) (hn : n ≤ 1000000) (hm : m ≤ 1000000) : ¬ 9223372036854775807 < (bs a).size + (bs b).size := cat_ok (by rw [bs_size]; omega) (by rw [bs_size]; omega)
set_option maxRecDepth 100000 in
set_option maxHeartbeats 1000000 in
theorem ref4Text_any (n : Nat) (hn : n < 4294967296) (w : World) :
    Calls Try.prog 128 #[.int .u32 n] w fun e w' => e = .returned (.string (bs (v4text n))) ∧ Below w.heap.size w w' := by
  have t1 := fun w => refText_any ((n : Int) / 16777216) (by omega) (by omega) w
  have t2 := fun w => refText_any ((n : Int) / 65536 % 256) (by omega) (by omega) w
  have t3 := fun w => refText_any ((n : Int) / 256 % 256) (by omega) (by omega) w
  have t4 := fun w => refText_any ((n : Int) % 256) (by omega) (by omega) w
  have dt : ∀ m : Nat, decText (m : Int) = digs m := fun m => by unfold decText; rw [if_neg (by omega)]; simp
  have e1 : decText ((n : Int) / 16777216) = digs (n / 16777216) := by rw [show (n : Int) / 16777216 = ((n / 16777216 : Nat) : Int) from by omega]; exact dt _
  have e2 : decText ((n : Int) / 65536 % 256) = digs (n / 65536 % 256) := by rw [show (n : Int) / 65536 % 256 = ((n / 65536 % 256 : Nat) : Int) from by omega]; exact dt _
  have e3 : decText ((n : Int) / 256 % 256) = digs (n / 256 % 256) := by rw [show (n : Int) / 256 % 256 = ((n / 256 % 256 : Nat) : Int) from by omega]; exact dt _
  have e4 : decText ((n : Int) % 256) = digs (n % 256) := by rw [show (n : Int) % 256 = ((n % 256 : Nat) : Int) from by omega]; exact dt _
  simp only [e1] at t1; simp only [e2] at t2; simp only [e3] at t3; simp only [e4] at t4
  have l1 := digs3 (n / 16777216) (by omega); have l2 := digs3 (n / 65536 % 256) (by omega); have l3 := digs3 (n / 256 % 256) (by omega); have l4 := digs3 (n % 256) (by omega)
  have HJ : Hid (v4text n = digs (n / 16777216) ++ 46 :: (digs (n / 65536 % 256) ++ 46 :: (digs (n / 256 % 256) ++ 46 :: digs (n % 256)))) := by
    unfold Hid v4text v4parts; rw [joinL_cons, joinL_cons, joinL_cons, joinL_one]
  generalize digs (n / 16777216) = d1 at *
  generalize digs (n / 65536 % 256) = d2 at *
  generalize digs (n / 256 % 256) = d3 at *
  generalize digs (n % 256) = d4 at *
  have T1 := Lib.hid t1; have T2 := Lib.hid t2; have T3 := Lib.hid t3; have T4 := Lib.hid t4
  have hd : (⟨#[46]⟩ : ByteArray) = bs [46] := rfl
  clear t1 t2 t3 t4 dt e1 e2 e3 e4
  have z0 : (bs [46]).size ≤ 1 := by rw [bs_size]; exact Nat.le_refl _
  rw [← bs_size] at l1 l2 l3 l4
  have s1 : ¬ 9223372036854775807 < (bs d1).size + (bs [46]).size := by omega
  have s2 : ¬ 9223372036854775807 < (bs d1).size + (bs [46]).size + (bs d2).size := by omega
  have s3 : ¬ 9223372036854775807 < (bs d1).size + (bs [46]).size + (bs d2).size + (bs [46]).size := by omega
  have s4 : ¬ 9223372036854775807 < (bs d1).size + (bs [46]).size + (bs d2).size + (bs [46]).size + (bs d3).size := by omega
  have s5 : ¬ 9223372036854775807 < (bs d1).size + (bs [46]).size + (bs d2).size + (bs [46]).size + (bs d3).size + (bs [46]).size := by omega
  have s6 : ¬ 9223372036854775807 < (bs d1).size + (bs [46]).size + (bs d2).size + (bs [46]).size + (bs d3).size + (bs [46]).size + (bs d4).size := by omega
  clear z0 l1 l2 l3 l4
  go_enter Try.func128, Try.ntmps128
  go_wp2_with (first
    | (go_at_call 85; (with_reducible refine (T1.out _).mono ?_); rintro e w1 ⟨rfl, b1⟩)
    | (go_at_call 85; (with_reducible refine (T2.out _).mono ?_); rintro e w2 ⟨rfl, b2⟩)
    | (go_at_call 85; (with_reducible refine (T3.out _).mono ?_); rintro e w3 ⟨rfl, b3⟩)
    | (go_at_call 85; (with_reducible refine (T4.out _).mono ?_); rintro e w4 ⟨rfl, b4⟩))
  go_ret
  exact ⟨ret_str (by rw [HJ.out]; simp [bs_append]), below4 b1 b2 b3 b4⟩

theorem dec_dig (m : Nat) (w : World) (h : m ≤ 9223372036854775807) : Calls Try.prog 82 #[.int .i64 m] w fun e w' => e = .returned (.string (bs (digs m))) ∧ Below w.heap.size w w' := by
  have := decText_any (m : Int) (by omega) (by omega) w
  unfold decText at this; rw [if_neg (by omega)] at this; simpa using this
set_option maxRecDepth 100000 in
set_option maxHeartbeats 1000000 in
theorem v4Text_any (N : Nat) (hN : N < 4294967296) (w : World) :
    Calls Try.prog 126 #[.int .u32 N] w fun e w' => e = .returned (.string (bs (v4text N))) ∧ Below w.heap.size w w' := by
  have hN2 : (N : Int) ≤ 4294967295 := by omega
  go_enter Try.func126, Try.ntmps126
  go_wp2_with fail
  go_loopw [4, 0] (fun i n wr => ∃ (k m : Nat) (arr : List Value), k ≤ 4 ∧ i = .int .i64 ((k : Int) - 1) ∧ n = .int .u32 m ∧ m < 4294967296 ∧ Below w.heap.size w wr ∧ Hid (BlockIs wr w.heap.size arr 152) ∧ Hid (arr.length = 4) ∧ Hid (V4At N m k arr)) (fun i _ _ => (intOf i + 1).toNat)
  case atStart => exact ⟨4, N, List.replicate 4 (.string ⟨#[]⟩), Nat.le_refl _, rfl, rfl, hN, (Below.refl _ _).alloc (Nat.le_refl _) _, BlockIs.new w _ _, rfl, [], rfl, by simp⟩
  case round =>
    obtain ⟨k, m, arr, hk, rfl, rfl, hm, hb, HB, HL, HV⟩ := hrel
    by_cases hk0 : k = 0
    · have q : ¬ (0 : Int) ≤ (k : Int) - 1 := by omega
      have q2 : (k : Int) < 1 := by omega
      have HV0 : Hid (arr = (v4parts N).map sv) := by
        obtain ⟨acc, h1, h2⟩ := HV.out
        rw [hk0] at h1 h2
        rw [v4pk_parts N hN] at h2
        unfold Hid; rw [h2]; simpa [v4pk] using h1
      have hrd : Reads wr (.slice (some ⟨w.heap.size, 0, none⟩) 4 4) (v4parts N).length 1 ((v4parts N).map sv) := by
        refine ⟨by simp, by simp [v4parts], Or.inr ⟨by simp [v4parts], w.heap.size, 0, 4, rfl, Nat.le_refl _, HB.out.lt, fun j x hj => ?_⟩⟩
        rw [← HV0.out] at hj
        rw [Nat.zero_add]; exact HB.out.cell hj
      have hjo := join_any _ (v4parts N) 46 wr (by simp [v4parts]) hrd (by have := v4text_len N hN; unfold v4text at this; omega)
      have HJO := Lib.hid hjo; clear hjo hrd hk0
      go_wp2_with (go_at_call 109; refine HJO.out.mono ?_; rintro e w2 ⟨rfl, b2⟩)
      go_ret
      exact ⟨ret_str rfl, below2 hb b2⟩
    · obtain ⟨j, rfl⟩ : ∃ j, k = j + 1 := ⟨k - 1, by omega⟩
      have ha := and8_u32 m hm
      have htx := fun w => dec_dig (m % 256) w (by omega)
      simp only [show ((m % 256 : Nat) : Int) = (m : Int) % 256 from by omega] at htx
      rw [show (((j + 1 : Nat) : Int) - 1) = (j : Int) from by omega]
      have q0 : (0 : Int) ≤ (j : Int) := by omega
      have q4 : (j : Int) < 4 := by omega
      have hv : ∃ v0, arr[j]? = some v0 := ⟨_, List.getElem?_eq_getElem (by have := HL.out; omega)⟩
      obtain ⟨v0, hv0⟩ := hv
      have HTX := Lib.hid htx; clear htx hk0
      have hz := hb.size
      go_wp2_with (go_at_call 82; refine (HTX.out _).mono ?_; rintro e w2 ⟨rfl, b2⟩; have hB2 := HB.out.below b2; have c2 := hB2.cell hv0; have f2 := hB2.frozen j; have HB2 := Lib.hid hB2; clear hB2)
      go_roundw
      case rel => exact ⟨j, m / 256, _, by omega, rfl, by go_num, by omega, (below2 hb b2).setCell (Nat.le_refl _) _, HB2.out.set j _, by unfold Hid; rw [List.length_set]; exact HL.out, HV.out.step (by have := HL.out; omega)⟩
      case measure => simp [intOf]
end Go.Proofs.Ytdjmejdfcceknaa
