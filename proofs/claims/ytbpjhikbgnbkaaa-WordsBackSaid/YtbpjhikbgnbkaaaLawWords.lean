/- The statements on words: what each law function returns. -/
import Derived.Test.YtbpjhikbgnbkaaaRows
import Derived.Test.YtbpjhikbgnbkaaaWords
import Derived.WalkKit
import Derived.WalkSpells
import Derived.WalkLawsBesides
import Derived.BigGuardPart
import Derived.BigQuiet
import Derived.Deep.QuietTactic
import Derived.Deep.Light
namespace Go.Proofs.Ytbpjhikbgnbkaaa
open Go.RowKit

theorem reads_lit (w : World) (T : TypeId) (l : List (List UInt8)) (hp : 0 < l.length) (hn : l.length ≤ 9223372036854775807) :
    Reads (w.alloc (.cells (l.map sv).toArray T)) (.slice (some ⟨w.heap.size, 0, none⟩) l.length l.length) l.length 1 (l.map sv) :=
  ⟨by simp, hn, Or.inr ⟨hp, w.heap.size, 0, l.length, rfl, Nat.le_refl _, by simp, fun j x hj => by simp [go_sem]; simpa using hj⟩⟩
/-- a row of strings that a callee has made, told by its cells -/
def Row (w : World) (g : Nat) (l : List (List UInt8)) : Prop := g < w.heap.size ∧ ∀ (j : Nat) (h : j < l.length), w.cell? ⟨g, j, none⟩ = some (.string (bs l[j]))
theorem Row.below {w w' : World} {g : Nat} {l : List (List UInt8)} (h : Row w g l) (hb : Below w.heap.size w w') : Row w' g l :=
  ⟨Nat.lt_of_lt_of_le h.1 hb.size, fun j hj => by rw [hb.cell (p := ⟨g, j, none⟩) h.1]; exact h.2 j hj⟩
theorem row_of {w : World} {base g n cap : Nat} {e : TypeId} {l : List (List UInt8)} (hp : 0 < n) (h : w.ownsRow base e 1 (.slice (some ⟨g, 0, none⟩) n cap) n (l.map sv)) : Row w g l := by
  obtain ⟨h1, _, h2⟩ := owns_reads h
  rcases h2 with ⟨h0, _⟩ | ⟨_, b, o, c, hv, _, hlt, hx⟩
  · omega
  · cases hv
    refine ⟨hlt, fun j hj => ?_⟩
    have := hx j (sv l[j]) (by rw [List.getElem?_map, List.getElem?_eq_getElem hj]; rfl)
    simpa [sv] using this

theorem gives_lines {f : FuncId} {args : Array Value} {W : World} {r : List (List UInt8) × Int} (h : Calls Try.prog f args W (GivesLines W .i64 r)) (hne : r.1 ≠ []) :
    Calls Try.prog f args W fun e w' => ∃ (g cap : Nat), e = .returned (.tuple #[.slice (some ⟨g, 0, none⟩) r.1.length cap, .int .i64 r.2]) ∧ r.1.length ≤ cap ∧ Row w' g r.1 ∧ Below W.heap.size W w' := by
  refine h.mono fun e w' ⟨v, he, hown, hb⟩ => ?_
  have ho := hown
  obtain ⟨h1, h2⟩ := hown
  rcases h2 with ⟨_, h0⟩ | ⟨g, cap, cur, hv, hg, hh, hn, hm, _⟩
  · exact absurd (List.length_eq_zero_iff.1 h0) hne
  · subst hv; exact ⟨g, cap, he, hn, row_of (by have := List.length_pos_iff.2 hne; omega) ho, hb⟩
set_option maxRecDepth 100000 in
set_option maxHeartbeats 1000000 in
theorem awake03 (w : World) : Calls Try.prog 20 #[] w fun e w' => e = .returned (.bool true) ∧ Below w.heap.size w w' := by
  have hl := fun w => gives_lines (lines_any ⟨#[97, 10, 10]⟩ w (by decide)) (by decide +kernel)
  have e1 : linesL (⟨#[97, 10, 10]⟩ : ByteArray).data.toList = ([[97], []], 0) := by decide +kernel
  rw [e1] at hl
  have hs := fun w => gives_some (by decide +kernel) (split_any ⟨#[97, 44, 44, 98]⟩ 44 w (by decide))
  have e2 : splitL 44 (⟨#[97, 44, 44, 98]⟩ : ByteArray).data.toList = [[97], [], [98]] := by decide +kernel
  rw [e2] at hs
  have hrw := fun w => row_any _ [[97], [98]] _ (by decide) (reads_lit w 9 [[97], [98]] (by decide) (by decide)) (by decide +kernel)
  have e3 : bs (joinL 32 [[97], [98]]) = ⟨#[97, 32, 98]⟩ := by decide +kernel
  rw [e3] at hrw
  have HL := Lib.hid hl; have HS := Lib.hid hs; have HR := Lib.hid hrw; clear hl hs hrw e1 e2 e3
  go_enter Try.func20, Try.ntmps20
  go_wp2_with (first
    | (go_at_call 27; refine (HL.out _).mono ?_; rintro e w1 ⟨g1, cap1, rfl, hc1, ⟨hg1, hr1⟩, b1⟩; have c1 := hr1 0 (by decide))
    | (go_at_call 22; refine (HS.out _).mono ?_; rintro e w2 ⟨g2, cap2, hc2, hc3, rfl, o2, b2⟩)
    | (go_at_call 26; refine (HR.out _).mono ?_; rintro e w3 ⟨rfl, b3⟩; have hb13 : Below w1.heap.size w1 w3 := (b2.alloc b2.size _).trans (b3.mono (by have := b2.size; simp; omega)); have c3 : w3.cell? ⟨g1, 0, none⟩ = some (.string ⟨#[97]⟩) := keep hb13 hg1 c1))
  go_ret
  exact ⟨rfl, b1.trans (hb13.mono b1.size)⟩
theorem wordsLines_any (s : ByteArray) (w : World) (hs : s.size ≤ maxLen) :
    Calls Try.prog 6 #[.string s] w fun e w' => e = .returned (.bool true) ∧ Below w.heap.size w w' := by
  unfold maxLen at hs
  by_cases h1 : 70000 < (s.size : Int)
  · go_enter Try.func6, Try.ntmps6
    go_wp2_with (go_at_call 20; refine (awake03 _).mono ?_; rintro e w1 ⟨rfl, hb⟩)
    go_ret
    exact ⟨rfl, hb⟩
  · have hl := fun w => lines_any s w (by omega)
    have hr := fun w => refLines_any s w (by omega)
    generalize hL : linesL s.data.toList = r at hl hr
    have HL := Lib.hid hl; have HR := Lib.hid hr; clear hl hr hL
    go_enter Try.func6, Try.ntmps6
    go_wp2_with (first
      | (go_at_call 27; refine (HL.out _).mono ?_; rintro e w1 ⟨v1, rfl, o1, b1⟩)
      | (go_at_call 28; refine (HR.out _).mono ?_; rintro e w2 ⟨v2, rfl, o2, b2⟩)
      | (go_at_call 21; refine (texts_same v1 v2 r.1 w2 ((owns_reads o1).below b2) (owns_reads o2)).mono ?_; rintro e w3 ⟨rfl, b3⟩)
      | (go_at_call 20; refine (awake03 _).mono ?_; rintro e w4 ⟨rfl, b4⟩))
    go_ret
    exact ⟨rfl, b1.trans ((b2.mono b1.size).trans ((b3.mono (by have := b1.size; have := b2.size; omega)).trans (b4.mono (by have := b1.size; have := b2.size; have := b3.size; omega))))⟩

def lightB (l : List (List UInt8)) : Bool := (l.take 100).all (fun x => decide (x.length ≤ 1000)) && decide (l.length ≤ 100)
theorem lightB_of {l : List (List UInt8)} (h : lightB l = true) : l.length ≤ 100 ∧ ∀ x ∈ l, x.length ≤ 1000 := by
  unfold lightB at h
  rw [Bool.and_eq_true, List.all_eq_true, decide_eq_true_eq] at h
  obtain ⟨h1, h2⟩ := h
  rw [List.take_of_length_le h2] at h1
  exact ⟨h2, fun x hx => by simpa using h1 x hx⟩
theorem lightB_bad {l : List (List UInt8)} {k : Nat} (hk : k < l.length) (hk2 : k < 100) (h : 1000 < l[k].length) : lightB l = false := by
  unfold lightB
  rw [Bool.and_eq_false_iff]; left
  rw [List.all_eq_false]
  refine ⟨l[k], ?_, by simp; omega⟩
  rw [List.mem_take_iff_getElem]
  exact ⟨k, by omega, rfl⟩
theorem lightB_end {l : List (List UInt8)} {k : Nat} (hk : l.length ≤ k ∨ 100 ≤ k) (h : ∀ j (hj : j < l.length), j < k → l[j].length ≤ 1000) : lightB l = decide (l.length ≤ 100) := by
  unfold lightB
  have : (l.take 100).all (fun x => decide (x.length ≤ 1000)) = true := by
    rw [List.all_eq_true]
    intro x hx
    rw [List.mem_take_iff_getElem] at hx
    obtain ⟨j, hj, rfl⟩ := hx
    simpa using h j (by omega) (by omega)
  rw [this]; simp
set_option maxRecDepth 100000 in
theorem light_any (v : Value) (l : List (List UInt8)) (w : World) (hv : Reads w v l.length 1 (l.map sv)) :
    Calls Try.prog 19 #[v] w fun e w' => e = .returned (.bool (lightB l)) ∧ w = w' := by
  obtain ⟨_, hn, a, cap, rfl, ho⟩ := hv.open
  rcases Nat.eq_zero_or_pos l.length with h0 | hp
  · have HZ : Hid (l = []) := List.length_eq_zero_iff.1 h0
    rw [h0]
    clear hv ho h0
    go_enter Try.func19, Try.ntmps19
    go_wp2_with fail
    refine wp_loop_rounds 1 ?_; rw [rounds_succ]
    go_wp2_with fail
    go_ret
    exact ⟨ret_bool (by rw [HZ.out]; rfl), rfl⟩
  · obtain ⟨b, o, rfl, hc, hlt, hx⟩ := ho hp
    have HX := Lib.hid (strs_at (n := 0) hx)
    clear hv ho hx
    go_enter Try.func19, Try.ntmps19
    go_wp2_with fail
    go_loop [3] (fun i => ∃ (k : Nat), k ≤ l.length ∧ k ≤ 100 ∧ i = .int .i64 k ∧ Hid (∀ j (hj : j < l.length), j < k → l[j].length ≤ 1000)) (fun i => 100 - (intOf i).toNat)
    case atStart => exact ⟨0, Nat.zero_le _, Nat.zero_le _, rfl, fun j _ h => by omega⟩
    case round =>
      obtain ⟨k, hk, hk2, rfl, HP⟩ := hrel
      by_cases hk3 : k < l.length
      · by_cases hk4 : k < 100
        · have c1 : w.cell? ⟨b, o + k, none⟩ = some (.string (bs l[k])) := HX.out k hk3
          have e1 := bs_size l[k]
          by_cases hbig : 1000 < ((bs l[k]).size : Int)
          · have HE := Lib.hid e1; clear e1
            go_wp2_with fail
            go_ret
            exact ⟨ret_bool (lightB_bad hk3 hk4 (by have := HE.out; omega)).symm, rfl⟩
          · have HE := Lib.hid e1; clear e1
            go_wp2_with fail
            go_round
            case rel =>
              refine ⟨k + 1, by omega, by omega, by go_num, fun j hj hjk => ?_⟩
              by_cases hjk2 : j < k
              · exact HP.out j hj hjk2
              · obtain rfl : j = k := by omega
                have := HE.out; omega
            case measure => simp [intOf]; omega
        · obtain rfl : k = 100 := by omega
          have q : 100 < (l.length : Int) := by omega
          go_wp2_with fail
          go_ret
          refine ⟨ret_bool ?_, rfl⟩
          rw [lightB_end (k := 100) (Or.inr (Nat.le_refl _)) HP.out]
          rw [Bool.eq_iff_iff]; simp; omega
      · obtain rfl : k = l.length := by omega
        go_wp2_with fail
        go_ret
        refine ⟨ret_bool ?_, rfl⟩
        rw [lightB_end (Or.inl (Nat.le_refl _)) HP.out]
        rw [Bool.eq_iff_iff]; simp; omega
theorem below4 {w w1 w2 w3 w4 : World} (b1 : Below w.heap.size w w1) (b2 : Below w1.heap.size w1 w2) (b3 : Below w2.heap.size w2 w3) (b4 : Below w3.heap.size w3 w4) : Below w.heap.size w w4 := by
  have h1 := b1.size; have h2 := b2.size; have h3 := b3.size
  exact b1.trans ((b2.mono h1).trans ((b3.mono (by omega)).trans (b4.mono (by omega))))
theorem below2 {w w1 w2 : World} (b1 : Below w.heap.size w w1) (b2 : Below w1.heap.size w1 w2) : Below w.heap.size w w2 := b1.trans (b2.mono b1.size)
set_option maxRecDepth 100000 in
set_option maxHeartbeats 1000000 in
theorem wordsTells_any (s : ByteArray) (c : UInt8) (v : Value) (l : List (List UInt8)) (w : World) (hs : s.size ≤ maxLen) (hv : Reads w v l.length 1 (l.map sv)) :
    Calls Try.prog 5 #[.string s, .int .u8 c.toNat, v] w fun e w' => e = .returned (.bool true) ∧ Below w.heap.size w w' := by
  unfold maxLen at hs
  by_cases h1 : 70000 < (s.size : Int)
  · go_enter Try.func5, Try.ntmps5
    go_wp2_with (go_at_call 20; refine (awake03 _).mono ?_; rintro e w1 ⟨rfl, hb⟩)
    go_ret
    exact ⟨rfl, hb⟩
  have hlt := light_any v l w hv
  cases hL : lightB l with
  | false =>
    rw [hL] at hlt
    have HLT := Lib.hid hlt; clear hlt hL
    go_enter Try.func5, Try.ntmps5
    go_wp2_with (first | (go_at_call 19; refine HLT.out.mono ?_; rintro e w1 ⟨rfl, rfl⟩) | (go_at_call 20; refine (awake03 _).mono ?_; rintro e w1 ⟨rfl, hb⟩))
    go_ret
    exact ⟨rfl, hb⟩
  | true =>
    rw [hL] at hlt
    obtain ⟨q1, q2⟩ := lightB_of hL
    have hj : ∀ c : UInt8, (joinL c l).length ≤ 140737488355328 := fun c => by have := joinL_len c l 100 1000 q2 q1; omega
    have HLT := Lib.hid hlt; have HJ := Lib.hid hj; have HQ : Hid (l.length ≤ 140737488355328) := by unfold Hid; omega
    clear hlt hL q1 q2 hj
    have hsp := fun w => split_any s c w (by omega)
    have hrs := fun w => refSplit_any s c w (by omega)
    generalize hS : splitL c s.data.toList = S at hsp hrs
    have HSP := Lib.hid hsp; have HRS := Lib.hid hrs; clear hsp hrs hS
    go_enter Try.func5, Try.ntmps5
    go_wp2_with (first
      | (go_at_call 19; refine HLT.out.mono ?_; rintro e w1 ⟨rfl, rfl⟩)
      | (go_at_call 22; refine (HSP.out _).mono ?_; rintro e w1 ⟨v1, rfl, o1, b1⟩)
      | (go_at_call 23; refine (HRS.out _).mono ?_; rintro e w2 ⟨v2, rfl, o2, b2⟩)
      | (go_at_call 21; refine (texts_same v1 v2 S w2 ((owns_reads o1).below b2) (owns_reads o2)).mono ?_; rintro e w3 ⟨rfl, b3⟩; have b123 := below4 b1 b2 b3 (Below.refl _ _))
      | (go_at_call 24; refine (join_any v l c w3 HQ.out (hv.below b123) (HJ.out c)).mono ?_; rintro e w4 ⟨rfl, b4⟩; have b14 := below2 b123 b4)
      | (go_at_call 26; refine (row_any v l w5 HQ.out (hv.below b15) (HJ.out 32)).mono ?_; rintro e w6 ⟨rfl, b6⟩; have b16 := below2 b15 b6)
      | (go_at_call 25; have _t := b16; refine (refJoin_any v l 32 w6 (hv.below b16) (HJ.out 32)).mono ?_; rintro e w7 ⟨rfl, b7⟩; have b17 := below2 b16 b7)
      | (go_at_call 25; refine (refJoin_any v l c w4 (hv.below b14) (HJ.out c)).mono ?_; rintro e w5 ⟨rfl, b5⟩; have b15 := below2 b14 b5)
      | (go_at_call 20; refine (awake03 _).mono ?_; rintro e w8 ⟨rfl, b8⟩))
    go_ret
    exact ⟨rfl, below2 b17 b8⟩

theorem feed_split (l : List UInt8) (h : l.getLast? = some 10) : ((splitL 10 l.dropLast).map (fun x => x ++ [10])).flatten = l := by
  obtain ⟨l', rfl⟩ : ∃ l', l = l' ++ [10] := by rw [List.getLast?_eq_some_iff] at h; exact h
  rw [List.dropLast_concat]
  have key : ∀ L : List (List UInt8), L ≠ [] → (L.map (fun x => x ++ [10])).flatten = joinL 10 L ++ [10] := by
    intro L hL
    induction L with
    | nil => exact absurd rfl hL
    | cons x r ih =>
      cases r with
      | nil => simp [joinL_one]
      | cons y r => rw [joinL_cons, List.map_cons, List.flatten_cons, ih (by simp)]; simp
  rw [key _ (splitL_ne _ _), joinL_split]
/-- what the lines of a text are, with their feeds: the text -/
theorem lines_back {l : List UInt8} {r : List (List UInt8) × Int} (h : linesL l = r) (h0 : r.2 = 0) : (r.1.map (fun x => x ++ [10])).flatten = l := by
  subst h
  unfold linesL at *
  split at h0
  · cases h0
  · rename_i g1
    rw [if_neg g1]
    split at h0
    · cases h0
    · rename_i g2
      rw [if_neg g2]
      split at h0
      · rename_i g3; rw [if_pos g3]; simp [g3]
      · rename_i g3
        rw [if_neg g3]
        split at h0
        · cases h0
        · rename_i g4
          rw [if_neg g4]
          exact feed_split l (Classical.not_not.1 g4)

theorem lines_len {l : List UInt8} : ∀ x ∈ (linesL l).1, x.length ≤ l.length := by
  intro x hx
  have h0 : (linesL l).2 = 0 := by
    unfold linesL at *
    split at hx
    · simp at hx
    · rename_i g1; rw [if_neg g1]
      split at hx
      · simp at hx
      · rename_i g2; rw [if_neg g2]
        split at hx
        · simp at hx
        · rename_i g3; rw [if_neg g3]
          split at hx
          · simp at hx
          · rename_i g4; rw [if_neg g4]
  have := lines_back rfl h0
  have h2 : x.length ≤ (((linesL l).1.map (fun x => x ++ [10])).flatten).length := by
    have : ∀ L : List (List UInt8), x ∈ L → x.length ≤ ((L.map (fun x => x ++ [10])).flatten).length := by
      intro L
      induction L with
      | nil => intro h; cases h
      | cons y r ih =>
        intro h
        rw [List.map_cons, List.flatten_cons, List.length_append]
        rcases List.mem_cons.1 h with h | h
        · rw [h]; simp; omega
        · have := ih h; omega
    exact this _ hx
  rwa [this] at h2
def feeds (L : List (List UInt8)) : List UInt8 := (L.map (fun x => x ++ [10])).flatten
theorem feeds_take (L : List (List UInt8)) (k : Nat) (h : k < L.length) : feeds (L.take (k + 1)) = feeds (L.take k) ++ L[k] ++ [10] := by
  unfold feeds; rw [List.take_succ_eq_append_getElem h, List.map_append, List.flatten_append]; simp
theorem feeds_mono (L : List (List UInt8)) (k : Nat) : (feeds (L.take k)).length ≤ (feeds L).length := by
  unfold feeds
  conv => rhs; rw [← List.take_append_drop k L, List.map_append, List.flatten_append, List.length_append]
  omega
set_option maxRecDepth 100000 in
set_option maxHeartbeats 2000000 in
theorem wordsBack_any (s : ByteArray) (c : UInt8) (v : Value) (l : List (List UInt8)) (w : World) (hs : s.size ≤ maxLen) (hv : Reads w v l.length 1 (l.map sv)) :
    Calls Try.prog 7 #[.string s, .int .u8 c.toNat, v] w fun e w' => e = .returned (.bool true) ∧ Below w.heap.size w w' := by
  unfold maxLen at hs
  by_cases h1 : 70000 < (s.size : Int)
  · go_enter Try.func7, Try.ntmps7
    go_wp2_with (go_at_call 20; refine (awake03 _).mono ?_; rintro e w1 ⟨rfl, hb⟩)
    go_ret
    exact ⟨rfl, hb⟩
  have hlt := light_any v l w hv
  cases hL : lightB l with
  | false =>
    rw [hL] at hlt
    have HLT := Lib.hid hlt; clear hlt hL
    go_enter Try.func7, Try.ntmps7
    go_wp2_with (first | (go_at_call 19; refine HLT.out.mono ?_; rintro e w1 ⟨rfl, rfl⟩) | (go_at_call 20; refine (awake03 _).mono ?_; rintro e w1 ⟨rfl, hb⟩))
    go_ret
    exact ⟨rfl, hb⟩
  | true =>
    rw [hL] at hlt
    obtain ⟨q1, q2⟩ := lightB_of hL
    have hj : ∀ c : UInt8, (joinL c l).length ≤ 140737488355328 := fun c => by have := joinL_len c l 100 1000 q2 q1; omega
    have HLT := Lib.hid hlt; have HJ := Lib.hid hj; have HQ : Hid (l.length ≤ 140737488355328) := by unfold Hid; omega
    have HQ2 := Lib.hid q2
    clear hlt hL q2 hj
    have hsp := fun w => gives_some (splitL_ne _ _) (split_any s c w (by omega))
    have hSL := splitL_len c s.data.toList
    have hSJ := joinL_split c s.data.toList
    rw [len_data] at hSL
    generalize hS : splitL c s.data.toList = S at hsp hSL hSJ
    have hbs : bs (joinL c S) = s := by rw [hSJ, bs_of]
    have hln := fun w => lines_any s w (by omega)
    have hlb := @lines_back s.data.toList _ rfl
    have hll := @lines_len s.data.toList
    rw [len_data] at hll
    generalize hR : linesL s.data.toList = R at hln hlb hll
    have HSP := Lib.hid hsp; have HSL : Hid (S.length ≤ 140737488355328) := by unfold Hid; omega
    have HSJ : Hid ((joinL c S).length ≤ 140737488355328) := by unfold Hid; rw [hSJ, len_data]; omega
    have HLN := Lib.hid hln; have HLB := Lib.hid hlb; have HBS := Lib.hid hbs; have HLL := Lib.hid hll
    clear hsp hSL hSJ hS hln hlb hR hbs hll
    have hji := fun (v1 : Value) (w1 : World) (h : Reads w1 v1 S.length 1 (S.map sv)) => join_any v1 S c w1 HSL.out h HSJ.out
    rw [HBS.out] at hji
    have HJI := Lib.hid hji; clear hji
    obtain ⟨_, _, av, capv, rfl, hov⟩ := hv.open
    have HOV := Lib.hid hov; have HV := Lib.hid hv; clear hov hv
    have H2 : Hid (∀ x ∈ l, ∀ w, Calls Try.prog 22 #[.string (bs x), .int .u8 c.toNat] w fun e w' => ∃ (g cap : Nat), (splitL c x).length ≤ cap ∧ cap ≤ 9223372036854775807 ∧ e = .returned (.slice (some ⟨g, 0, none⟩) (splitL c x).length cap) ∧ w'.ownsRow w.heap.size 9 1 (.slice (some ⟨g, 0, none⟩) (splitL c x).length cap) (splitL c x).length ((splitL c x).map sv) ∧ Below w.heap.size w w') := by
      intro x hx w
      have h := gives_some (splitL_ne _ _) (split_any (bs x) c w (by rw [bs_size]; have := HQ2.out x hx; omega))
      rw [bs_data] at h; exact h
    by_cases h0 : R.2 = 0
    · have hq0 : (R.2 == 0) = true := by rw [h0]; rfl
      have HF : Hid (feeds R.1 = s.data.toList) := HLB.out h0
      clear h0 HLB
      go_enter Try.func7, Try.ntmps7
      go_wp2_with (first
        | (go_at_call 19; refine HLT.out.mono ?_; rintro e w1 ⟨rfl, rfl⟩)
        | (go_at_call 22; refine (HSP.out _).mono ?_; rintro e w1 ⟨g, cap, hc1, hc2, rfl, o1, b1⟩)
        | (go_at_call 24; refine (HJI.out _ w1 (owns_reads o1)).mono ?_; rintro e w2 ⟨rfl, b2⟩; have b12 := below2 b1 b2)
        | (go_at_call 27; refine (HLN.out _).mono ?_; rintro e w3 ⟨v3, rfl, o3, b3⟩; have b13 := below2 b12 b3; obtain ⟨_, hn3, a3, cap3, rfl, ho3⟩ := (owns_reads o3).open; have HO3 := Lib.hid ho3; clear ho3))
      go_loop [10, 9] (fun i x => ∃ (k : Nat) (y : ByteArray), k ≤ R.1.length ∧ i = .int .i64 k ∧ x = .string y ∧ Hid (y.data.toList = feeds (R.1.take k))) (fun i _ => R.1.length - (intOf i).toNat)
      case atStart => exact ⟨0, bs [], Nat.zero_le _, rfl, rfl, rfl⟩
      case round =>
        obtain ⟨k, y, hk, rfl, rfl, HY⟩ := hrel
        have hys : y.size ≤ s.size := by rw [← len_data, HY.out, ← len_data, ← HF.out]; exact feeds_mono _ _
        by_cases hk2 : k < R.1.length
        · obtain ⟨b3', of3, rfl, hcc3, hlt3, hx3⟩ := HO3.out (by omega)
          have c1 : w3.cell? ⟨b3', of3 + k, none⟩ = some (.string (bs R.1[k])) := strs_at (n := 0) hx3 k hk2
          have hxs : (bs R.1[k]).size ≤ s.size := by rw [bs_size]; exact HLL.out _ (List.getElem_mem hk2)
          have q1 : ¬ 9223372036854775807 < y.size + (bs R.1[k]).size := by omega
          have q2 : ¬ 9223372036854775807 < (y ++ bs R.1[k]).size + (⟨#[10]⟩ : ByteArray).size := by
            rw [ByteArray.size_append]; have : (⟨#[10]⟩ : ByteArray).size = 1 := rfl
            omega
          clear hx3 hys hxs
          go_wp2_with fail
          go_round
          case rel =>
            refine ⟨k + 1, _, by omega, by go_num, rfl, ?_⟩
            unfold Hid; rw [feeds_take _ _ hk2, ← HY.out]; simp [bs]
          case measure => simp [intOf]; omega
        · obtain rfl : k = R.1.length := by omega
          have hye : y = s := by
            apply ext_data; rw [HY.out, List.take_length]; exact HF.out
          subst hye
          go_wp2_with fail
          go_loopw [11] (fun i wr => ∃ k : Nat, k ≤ l.length ∧ i = .int .i64 k ∧ Below w.heap.size w wr ∧ Hid (∀ j (hj : j < l.length), j < k → c ∉ l[j])) (fun i _ => l.length - (intOf i).toNat)
          case atStart => exact ⟨0, Nat.zero_le _, rfl, b13, fun j _ h => by omega⟩
          case round =>
            obtain ⟨k, hk, rfl, hb, HP⟩ := hrel
            by_cases hk2 : k < l.length
            · obtain ⟨bv', ov, rfl, hcv, hltv, hxv⟩ := HOV.out (by omega)
              have c1 : wr.cell? ⟨bv', ov + k, none⟩ = some (.string (bs l[k])) := keep hb hltv (strs_at (n := 0) hxv k hk2)
              have hsp2 := H2.out l[k] (List.getElem_mem hk2)
              by_cases hone : (splitL c l[k]).length = 1
              · have hc := Lib.hid (splitL_one hone)
                simp only [hone] at hsp2
                have HS2 := Lib.hid hsp2; clear hsp2 hxv hone
                go_wp2_with (go_at_call 22; refine (HS2.out _).mono ?_; rintro e w5 ⟨g5, cap5, hc5, hc6, rfl, o5, b5⟩)
                go_roundw
                case rel =>
                  refine ⟨k + 1, by omega, by go_num, below2 hb b5, fun j hj hjk => ?_⟩
                  by_cases hjk2 : j < k
                  · exact HP.out j hj hjk2
                  · obtain rfl : j = k := by omega
                    exact hc.out
                case measure => simp [intOf]; omega
              · have hq : (((splitL c l[k]).length : Int) != 1) = true := by rw [bne_iff_ne]; omega
                have HS2 := Lib.hid hsp2; clear hsp2 hxv
                go_wp2_with (first
                  | (go_at_call 22; refine (HS2.out _).mono ?_; rintro e w5 ⟨g5, cap5, hc5, hc6, rfl, o5, b5⟩)
                  | (go_at_call 20; refine (awake03 _).mono ?_; rintro e w6 ⟨rfl, b6⟩))
                go_ret
                exact ⟨rfl, below2 (below2 hb b5) b6⟩
            · obtain rfl : k = l.length := by omega
              by_cases h0 : l.length = 0
              · have hq : ((l.length : Int) == 0) = true := by rw [beq_iff_eq]; omega
                have HZ := Lib.hid h0; clear h0
                go_wp2_with (go_at_call 20; refine (awake03 _).mono ?_; rintro e w6 ⟨rfl, b6⟩)
                go_ret
                exact ⟨rfl, below2 hb b6⟩
              · have hq : ((l.length : Int) == 0) = false := by rw [beq_eq_false_iff_ne]; omega
                have hsj := splitL_join c l (fun e => h0 (by rw [e]; rfl)) (fun x hx => by
                  obtain ⟨j, hj, rfl⟩ := List.mem_iff_getElem.1 hx
                  exact HP.out j hj hj)
                have hsp3 := fun w => split_any (bs (joinL c l)) c w (by rw [bs_size]; have := joinL_len c l 100 1000 HQ2.out q1; omega)
                simp only [bs_data, hsj] at hsp3
                have HS3 := Lib.hid hsp3; clear hsp3 hsj h0
                go_wp2_with (first
                  | (go_at_call 24; refine (join_any _ l c wr HQ.out (HV.out.below hb) (HJ.out c)).mono ?_; rintro e w5 ⟨rfl, b5⟩; have b15 := below2 hb b5)
                  | (go_at_call 22; refine (HS3.out _).mono ?_; rintro e w6 ⟨v6, rfl, o6, b6⟩; have b16 := below2 b15 b6)
                  | (go_at_call 21; refine (texts_same v6 _ l w6 (owns_reads o6) (HV.out.below b16)).mono ?_; rintro e w7 ⟨rfl, b7⟩; have b17 := below2 b16 b7)
                  | (go_at_call 20; refine (awake03 _).mono ?_; rintro e w8 ⟨rfl, b8⟩))
                go_ret
                exact ⟨rfl, below2 b17 b8⟩
    · have hq0 : (R.2 == 0) = false := by rw [beq_eq_false_iff_ne]; exact h0
      clear h0 HLB
      go_enter Try.func7, Try.ntmps7
      go_wp2_with (first
        | (go_at_call 19; refine HLT.out.mono ?_; rintro e w1 ⟨rfl, rfl⟩)
        | (go_at_call 22; refine (HSP.out _).mono ?_; rintro e w1 ⟨g, cap, hc1, hc2, rfl, o1, b1⟩)
        | (go_at_call 24; refine (HJI.out _ w1 (owns_reads o1)).mono ?_; rintro e w2 ⟨rfl, b2⟩; have b12 := below2 b1 b2)
        | (go_at_call 27; refine (HLN.out _).mono ?_; rintro e w3 ⟨v3, rfl, o3, b3⟩; have b13 := below2 b12 b3))
      go_loopw [11] (fun i wr => ∃ k : Nat, k ≤ l.length ∧ i = .int .i64 k ∧ Below w.heap.size w wr ∧ Hid (∀ j (hj : j < l.length), j < k → c ∉ l[j])) (fun i _ => l.length - (intOf i).toNat)
      case atStart => exact ⟨0, Nat.zero_le _, rfl, b13, fun j _ h => by omega⟩
      case round =>
        obtain ⟨k, hk, rfl, hb, HP⟩ := hrel
        by_cases hk2 : k < l.length
        · obtain ⟨bv', ov, rfl, hcv, hltv, hxv⟩ := HOV.out (by omega)
          have c1 : wr.cell? ⟨bv', ov + k, none⟩ = some (.string (bs l[k])) := keep hb hltv (strs_at (n := 0) hxv k hk2)
          have hsp2 := H2.out l[k] (List.getElem_mem hk2)
          by_cases hone : (splitL c l[k]).length = 1
          · have hc := Lib.hid (splitL_one hone)
            simp only [hone] at hsp2
            have HS2 := Lib.hid hsp2; clear hsp2 hxv hone
            go_wp2_with (go_at_call 22; refine (HS2.out _).mono ?_; rintro e w5 ⟨g5, cap5, hc5, hc6, rfl, o5, b5⟩)
            go_roundw
            case rel =>
              refine ⟨k + 1, by omega, by go_num, below2 hb b5, fun j hj hjk => ?_⟩
              by_cases hjk2 : j < k
              · exact HP.out j hj hjk2
              · obtain rfl : j = k := by omega
                exact hc.out
            case measure => simp [intOf]; omega
          · have hq : (((splitL c l[k]).length : Int) != 1) = true := by rw [bne_iff_ne]; omega
            have HS2 := Lib.hid hsp2; clear hsp2 hxv
            go_wp2_with (first
              | (go_at_call 22; refine (HS2.out _).mono ?_; rintro e w5 ⟨g5, cap5, hc5, hc6, rfl, o5, b5⟩)
              | (go_at_call 20; refine (awake03 _).mono ?_; rintro e w6 ⟨rfl, b6⟩))
            go_ret
            exact ⟨rfl, below2 (below2 hb b5) b6⟩
        · obtain rfl : k = l.length := by omega
          by_cases h0 : l.length = 0
          · have hq : ((l.length : Int) == 0) = true := by rw [beq_iff_eq]; omega
            have HZ := Lib.hid h0; clear h0
            go_wp2_with (go_at_call 20; refine (awake03 _).mono ?_; rintro e w6 ⟨rfl, b6⟩)
            go_ret
            exact ⟨rfl, below2 hb b6⟩
          · have hq : ((l.length : Int) == 0) = false := by rw [beq_eq_false_iff_ne]; omega
            have hsj := splitL_join c l (fun e => h0 (by rw [e]; rfl)) (fun x hx => by
              obtain ⟨j, hj, rfl⟩ := List.mem_iff_getElem.1 hx
              exact HP.out j hj hj)
            have hsp3 := fun w => split_any (bs (joinL c l)) c w (by rw [bs_size]; have := joinL_len c l 100 1000 HQ2.out q1; omega)
            simp only [bs_data, hsj] at hsp3
            have HS3 := Lib.hid hsp3; clear hsp3 hsj h0
            go_wp2_with (first
              | (go_at_call 24; refine (join_any _ l c wr HQ.out (HV.out.below hb) (HJ.out c)).mono ?_; rintro e w5 ⟨rfl, b5⟩; have b15 := below2 hb b5)
              | (go_at_call 22; refine (HS3.out _).mono ?_; rintro e w6 ⟨v6, rfl, o6, b6⟩; have b16 := below2 b15 b6)
              | (go_at_call 21; refine (texts_same v6 _ l w6 (owns_reads o6) (HV.out.below b16)).mono ?_; rintro e w7 ⟨rfl, b7⟩; have b17 := below2 b16 b7)
              | (go_at_call 20; refine (awake03 _).mono ?_; rintro e w8 ⟨rfl, b8⟩))
            go_ret
            exact ⟨rfl, below2 b17 b8⟩
end Go.Proofs.Ytbpjhikbgnbkaaa
