/- Texts put together: Ip6Full, Ip6G, Ip6H. No condition. -/
import Derived.Test.YtdjmejdfcceknaaRows
import Derived.Test.YtdjmejdfcceknaaQa273dbyaezvv
import Derived.WalkKit
import Derived.WalkSpells
import Derived.WalkLawsBesides
import Derived.BigGuardPart
import Derived.BigQuiet
import Derived.Deep.QuietTactic
import Derived.Deep.Light
import Derived.OwnWalk
import Derived.Laws.OwnMore
import Derived.StillTailTactics
import Derived.BigRegion
import Derived.Handy
/- The contracts of ipv6: the reference reads. -/
namespace Go.Proofs.Ytdjmejdfcceknaa
open Go.RowKit


def iv (n : Nat) : Value := .int .i64 n
theorem intRow : RowT Try.prog 57 3 1 8 := RowT.mk (.int .i64 0) Try.underlying57 (by kernel_rfl) rfl (by omega)
def FullAt (W : World) (L : List (List UInt8)) (k : Nat) (v : Value) (wr : World) : Prop :=
  ∃ a : List Nat, k ≤ a.length ∧ (a.length = k ∨ (a.length = k + 1 ∧ k = L.length)) ∧ (∀ x ∈ a, x < 65536) ∧ fullP (L.drop k) a = fullP L [] ∧ wr.ownsRow W.heap.size 3 1 v a.length (a.map iv)
theorem mem_snoc {a : List Nat} {n : Nat} (h : ∀ x ∈ a, x < 65536) (hn : n < 65536) : ∀ x ∈ a ++ [n], x < 65536 := by
  intro x hx; rcases List.mem_append.1 hx with h1 | h1
  · exact h x h1
  · simp at h1; omega
end Go.Proofs.Ytdjmejdfcceknaa
/- The contracts of ipv6's reference: Full, Text. -/
namespace Go.Proofs.Ytdjmejdfcceknaa
open Go.RowKit

theorem hexT (n : Nat) (h : n < 65536) : hexText (n : Int) = hexs n := by
  unfold hexText; rw [if_neg (by omega), Int.toNat_natCast]
theorem refHexN (n : Nat) (h : n < 65536) (w : World) : Calls Try.prog 144 #[.int .i64 n] w fun e w' => e = .returned (.string (bs (hexs n))) ∧ Below w.heap.size w w' := by
  have := refHex_any 3 (n : Int) w (by rw [Int.toNat_natCast]; exact h)
  rw [hexT n h] at this; exact this
theorem hexJ_one (n : Nat) : hexJ [n] = hexs n := joinL_one 58 (hexs n)
theorem hexJ_snoc (L : List Nat) (n : Nat) (h : L ≠ []) : hexJ (L ++ [n]) = hexJ L ++ 58 :: hexs n := by
  unfold hexJ; rw [List.map_append, List.map_cons, List.map_nil, joinL_snoc _ _ _ (by simpa using h)]
end Go.Proofs.Ytdjmejdfcceknaa
/- The contracts of ipv6's reference: Text. -/
namespace Go.Proofs.Ytdjmejdfcceknaa
open Go.RowKit

theorem runK_eq (g : List Nat) (k : Nat) (h : (runK g k).1 = (runK g k).2) : (runK g k).1 = 0 := by
  induction k with
  | zero => rfl
  | succ k ih =>
    rw [runK_succ] at *
    unfold runStep at *
    split at h
    · simp at h; omega
    · rename_i hc; rw [if_neg hc]; exact ih h
theorem str_last (r : List UInt8) (y : UInt8) : ∃ sb : ByteArray, sb = bs (r ++ [y]) ∧ sb.size = r.length + 1 ∧ sb.toList.isEmpty = false ∧ ∀ h : r.length < sb.size, sb[r.length]'h = y := by
  have hs : (bs (r ++ [y])).size = r.length + 1 := by rw [bs_size, List.length_append]; rfl
  refine ⟨_, rfl, hs, by rw [isE, bs_data]; simp, fun h => ?_⟩
  have := get_data (bs (r ++ [y])) r.length h
  rw [bs_data] at this
  simp at this
  exact this.symm
/-- the text so far, at group i -/
def TxAt (g : List Nat) (f t : Nat) (gap : Bool) (i : Nat) (s : List UInt8) : Prop :=
  ((gap = false ∨ i ≤ f) ∧ s = hexJ (g.take i)) ∨ (gap = true ∧ t ≤ i ∧ s = hexJ (g.take f) ++ ([58, 58] ++ hexJ ((g.take i).drop t)))
theorem hexJ_last (L : List Nat) : (hexJ L).getLast? ≠ some 58 := (joinL_nogap _ (hexJ_ok L)).2.2
theorem hexs_pos (x : Nat) : hexs x ≠ [] := by have := hexs_ne x; intro h; rw [h] at this; simp at this
theorem tx_step {g : List Nat} {f t : Nat} {gap : Bool} {i x : Nat} {s : List UInt8} (h : TxAt g f t gap i s) (hx : g[i]? = some x) (hi : i < 8) (hf : ¬ (gap = true ∧ i = f)) (ht : t ≤ 8) (hft : f ≤ t) (h8 : g.length = 8) :
    (s = [] ∧ TxAt g f t gap (i + 1) (hexs x)) ∨ (∃ y r, s = r ++ [y] ∧ y = 58 ∧ TxAt g f t gap (i + 1) (s ++ hexs x)) ∨ (∃ y r, s = r ++ [y] ∧ y ≠ 58 ∧ TxAt g f t gap (i + 1) (s ++ [58] ++ hexs x)) := by
  have hs : g.take (i + 1) = g.take i ++ [x] := by rw [List.take_add_one, hx]; rfl
  rcases h with ⟨h1, rfl⟩ | ⟨h1, h2, rfl⟩
  · have h1' : gap = false ∨ i + 1 ≤ f := by
      rcases h1 with h | h
      · exact Or.inl h
      · cases gap
        · exact Or.inl rfl
        · exact Or.inr (by have : i ≠ f := fun e => hf ⟨rfl, e⟩; omega)
    by_cases h0 : i = 0
    · subst h0
      refine Or.inl ⟨rfl, Or.inl ⟨h1', ?_⟩⟩
      rw [hs]; simp [hexJ_one]
    · have hne : g.take i ≠ [] := by intro e; have := congrArg List.length e; rw [List.length_take, h8] at this; simp at this; omega
      have hl := hexJ_last (g.take i)
      have hp := hexJ_pos _ hne
      obtain ⟨y, r, e⟩ : ∃ y r, hexJ (g.take i) = r ++ [y] := ⟨_, _, (List.dropLast_concat_getLast (by intro e; rw [e] at hp; simp at hp)).symm⟩
      refine Or.inr (Or.inr ⟨y, r, e, fun hy => hl (by rw [e, hy]; simp), Or.inl ⟨h1', ?_⟩⟩)
      rw [hs, hexJ_snoc _ _ hne]; simp
  · have hd : (g.take (i + 1)).drop t = (g.take i).drop t ++ [x] := by rw [hs, List.drop_append_of_le_length (by rw [List.length_take, h8]; omega)]
    by_cases h0 : i = t
    · subst h0
      have e0 : (g.take i).drop i = [] := List.drop_eq_nil_of_le (by rw [List.length_take]; omega)
      refine Or.inr (Or.inl ⟨58, hexJ (g.take f) ++ [58], ?_, rfl, Or.inr ⟨h1, by omega, ?_⟩⟩)
      · rw [e0]; show hexJ (g.take f) ++ ([58, 58] ++ []) = _; simp
      · rw [hd, e0]; show hexJ (g.take f) ++ ([58, 58] ++ []) ++ hexs x = _; simp [hexJ_one]
    · have hne : (g.take i).drop t ≠ [] := by intro e; have := congrArg List.length e; rw [List.length_drop, List.length_take, h8] at this; simp at this; omega
      have hl := hexJ_last ((g.take i).drop t)
      have hp := hexJ_pos _ hne
      obtain ⟨y, r, e⟩ : ∃ y r, hexJ ((g.take i).drop t) = r ++ [y] := ⟨_, _, (List.dropLast_concat_getLast (by intro e; rw [e] at hp; simp at hp)).symm⟩
      refine Or.inr (Or.inr ⟨y, hexJ (g.take f) ++ ([58, 58] ++ r), by rw [e]; simp, fun hy => hl (by rw [e, hy]; simp), Or.inr ⟨h1, by omega, ?_⟩⟩)
      rw [hd, hexJ_snoc _ _ hne]; simp
theorem tx_gap {g : List Nat} {f t : Nat} {s : List UInt8} (h : TxAt g f t true f s) (hft : f < t) (h8 : g.length = 8) (ht : t ≤ 8) : TxAt g f t true t (s ++ [58, 58]) := by
  rcases h with ⟨_, rfl⟩ | ⟨_, h2, _⟩
  · refine Or.inr ⟨rfl, Nat.le_refl _, ?_⟩
    have e0 : (g.take t).drop t = [] := List.drop_eq_nil_of_le (by rw [List.length_take]; omega)
    rw [e0]; show _ = hexJ (g.take f) ++ ([58, 58] ++ []); simp
  · omega
theorem tx_end {g : List Nat} {gap : Bool} {s : List UInt8} (hgap : gap = decide (2 ≤ (runL g).2 - (runL g).1)) (h : TxAt g (runL g).1 (runL g).2 gap 8 s) (h8 : g.length = 8) (hf : gap = true → (runL g).1 < 8) : s = textG g (runL g) := by
  have e8 : g.take 8 = g := List.take_of_length_le (by omega)
  unfold textG
  rcases h with ⟨h1, rfl⟩ | ⟨h1, h2, rfl⟩
  · rw [e8]
    rcases h1 with h1 | h1
    · rw [if_pos]
      rw [h1] at hgap
      have := of_decide_eq_false hgap.symm
      omega
    · rw [if_pos]
      cases gap
      · have := of_decide_eq_false hgap.symm; omega
      · have := hf rfl; omega
  · rw [h1] at hgap
    have := of_decide_eq_true hgap.symm
    rw [if_neg (by omega), e8]
theorem at_end (g : List Nat) (h8 : g.length = 8) : (atK g 8 = -1 ∧ ¬ 2 ≤ (runL g).2 - (runL g).1) ∨ (atK g 8 = ((runL g).1 : Int) ∧ 2 ≤ (runL g).2 - (runL g).1 ∧ (runL g).1 < 8 ∧ (runL g).2 ≤ 8 ∧ (runL g).2 = (runL g).1 + zc (g.drop (runL g).1)) := by
  have h := atK_run g 8
  have e : runK g 8 = runL g := rfl
  have hk := runK_ok g 8
  rw [e] at h hk
  by_cases hc : (runL g).2 - (runL g).1 < 2
  · rw [if_pos hc] at h; exact Or.inl ⟨h, by omega⟩
  · rw [if_neg hc] at h
    obtain ⟨a, b, c⟩ := hk
    have hne : ¬ (runL g).1 = (runL g).2 := by omega
    rw [if_neg hne] at c
    have h2 := (run_mid g h8 (by omega)).1
    exact Or.inr ⟨h, by omega, by rcases b with b | b <;> omega, h2, c⟩
theorem atK_bd (g : List Nat) (k : Nat) : -1 ≤ atK g k ∧ (atK g k < k ∨ atK g k = -1) := by
  rw [atK_run]
  have := runK_ok g k
  split
  · exact ⟨by omega, Or.inr rfl⟩
  · obtain ⟨_, b, _⟩ := this; exact ⟨by omega, Or.inl (by omega)⟩
set_option maxRecDepth 100000 in
set_option maxHeartbeats 2000000 in
theorem ref6Text_any (hi lo : Nat) (h1 : hi < 18446744073709551616) (h2 : lo < 18446744073709551616) (w : World) :
    Calls Try.prog 127 #[.int .u64 hi, .int .u64 lo] w fun e w' => e = .returned (.string (bs (v6text hi lo))) ∧ Below w.heap.size w w' := by
  have hgr := fun (j : Nat) (hj : j < 8) w => group_any hi lo j h1 h2 hj w
  have hzr := fun (j : Nat) (hj : j ≤ 8) w => zeros_any hi lo j h1 h2 hj w
  have hg := grps_lt hi lo h1 h2
  have h8 : (grps hi lo).length = 8 := rfl
  have hv : v6text hi lo = textG (grps hi lo) (runL (grps hi lo)) := rfl
  rw [hv]; clear hv
  obtain ⟨out, hout⟩ : ∃ out, out = textG (grps hi lo) (runL (grps hi lo)) := ⟨_, rfl⟩
  rw [← hout]
  generalize grps hi lo = g at *
  have hel : ∀ j, j < 8 → ∃ x, g[j]? = some x ∧ x < 65536 ∧ g.getD j 0 = x := fun j hj => by
    have hl : j < g.length := by omega
    exact ⟨g[j], List.getElem?_eq_getElem hl, hg _ (List.getElem_mem hl), by rw [List.getD, List.getElem?_eq_getElem hl]; rfl⟩
  have HGR := Lib.hid hgr; have HZR := Lib.hid hzr; have H8 := Lib.hid h8; have HE := Lib.hid hel
  clear hgr hzr hg h8 hel
  have HOUT := Lib.hid hout; clear hout
  have z0 : (bs [58]).size ≤ 1 := by rw [bs_size]; exact Nat.le_refl _
  have z1 : (bs [58, 58]).size ≤ 2 := by rw [bs_size]; exact Nat.le_refl _
  have hd : (⟨#[58]⟩ : ByteArray) = bs [58] := rfl
  have hd2 : (⟨#[58, 58]⟩ : ByteArray) = bs [58, 58] := rfl
  go_enter Try.func127, Try.ntmps127
  go_wp2_with fail
  go_loop [5, 6] (fun x y => ∃ (a : Int) (k : Nat), x = .int .i64 a ∧ y = .int .i64 k ∧ k ≤ 8 ∧ Hid (a = atK g k)) (fun _ y => 8 - (intOf y).toNat)
  case atStart => exact ⟨-1, 0, rfl, rfl, by omega, rfl⟩
  case round =>
    obtain ⟨a, k, rfl, rfl, hk, HA⟩ := hrel
    by_cases hk8 : k < 8
    · have hz := fun w => HZR.out k (by omega) w
      have hst := atK_succ g k
      rw [← HA.out] at hst
      unfold atStep at hst
      have hbd := atK_bd g k
      rw [← HA.out] at hbd
      have hzl := zc_le (g.drop k)
      rw [List.length_drop, H8.out] at hzl
      by_cases ha : a < 0
      · by_cases hc : 1 < zc (g.drop k)
        · rw [if_pos ⟨hc, Or.inl ha⟩] at hst
          generalize zc (g.drop k) = z at *
          have q1 : (1 : Int) < (z : Int) := by omega
          have HZ := Lib.hid hz; have HST := Lib.hid hst; clear hz hst HA
          go_wp2_with (go_at_call 143; (with_reducible refine (HZ.out _).mono ?_); rintro e w1 ⟨rfl, rfl⟩)
          go_round
          case rel => exact ⟨k, k + 1, rfl, by go_num, by omega, HST.out.symm⟩
          case measure => simp [intOf]; omega
        · rw [if_neg (fun h => hc h.1)] at hst
          generalize zc (g.drop k) = z at *
          have q1 : ¬ (1 : Int) < (z : Int) := by omega
          have HZ := Lib.hid hz; have HST := Lib.hid hst; clear hz hst HA
          go_wp2_with (go_at_call 143; (with_reducible refine (HZ.out _).mono ?_); rintro e w1 ⟨rfl, rfl⟩)
          go_round
          case rel => exact ⟨a, k + 1, rfl, by go_num, by omega, HST.out.symm⟩
          case measure => simp [intOf]; omega
      · obtain ⟨n, rfl⟩ : ∃ n : Nat, a = n := ⟨a.toNat, by omega⟩
        have hz2 := fun w => HZR.out n (by omega) w
        have hzl2 := zc_le (g.drop n)
        rw [List.length_drop, H8.out] at hzl2
        rw [Int.toNat_natCast] at hst
        by_cases hc : 1 < zc (g.drop k)
        · by_cases hc2 : zc (g.drop n) < zc (g.drop k)
          · rw [if_pos ⟨hc, Or.inr hc2⟩] at hst
            generalize zc (g.drop k) = z at *
            generalize zc (g.drop n) = z2 at *
            have q1 : (1 : Int) < (z : Int) := by omega
            have q2 : (z2 : Int) < (z : Int) := by omega
            have HZ := Lib.hid hz; have HZ2 := Lib.hid hz2; have HST := Lib.hid hst; clear hz hst hz2 HA
            go_wp2_with (go_at_call 143; (first | (with_reducible refine (HZ.out _).mono ?_) | (with_reducible refine (HZ2.out _).mono ?_)); rintro e w1 ⟨rfl, rfl⟩)
            go_round
            case rel => exact ⟨k, k + 1, rfl, by go_num, by omega, HST.out.symm⟩
            case measure => simp [intOf]; omega
          · rw [if_neg (fun h => h.2.elim (fun h => ha h) hc2)] at hst
            generalize zc (g.drop k) = z at *
            generalize zc (g.drop n) = z2 at *
            have q1 : (1 : Int) < (z : Int) := by omega
            have q2 : ¬ (z2 : Int) < (z : Int) := by omega
            have HZ := Lib.hid hz; have HZ2 := Lib.hid hz2; have HST := Lib.hid hst; clear hz hst hz2 HA
            go_wp2_with (go_at_call 143; (first | (with_reducible refine (HZ.out _).mono ?_) | (with_reducible refine (HZ2.out _).mono ?_)); rintro e w1 ⟨rfl, rfl⟩)
            go_round
            case rel => exact ⟨n, k + 1, rfl, by go_num, by omega, HST.out.symm⟩
            case measure => simp [intOf]; omega
        · rw [if_neg (fun h => hc h.1)] at hst
          generalize zc (g.drop k) = z at *
          have q1 : ¬ (1 : Int) < (z : Int) := by omega
          have HZ := Lib.hid hz; have HST := Lib.hid hst; clear hz hst hz2 HA
          go_wp2_with (go_at_call 143; (with_reducible refine (HZ.out _).mono ?_); rintro e w1 ⟨rfl, rfl⟩)
          go_round
          case rel => exact ⟨n, k + 1, rfl, by go_num, by omega, HST.out.symm⟩
          case measure => simp [intOf]; omega
    · obtain rfl : k = 8 := by omega
      obtain ⟨gap, hgap⟩ : ∃ gap : Bool, gap = decide (2 ≤ (runL g).2 - (runL g).1) := ⟨_, rfl⟩
      have hat := at_end g H8.out
      rw [← HA.out] at hat
      have hte := fun s h hf => tx_end (s := s) hgap h H8.out hf
      have hat' : (a = -1 ∧ gap = false) ∨ (a = ((runL g).1 : Int) ∧ gap = true ∧ (runL g).1 + 2 ≤ (runL g).2 ∧ (runL g).1 < 8 ∧ (runL g).2 ≤ 8 ∧ (runL g).2 = (runL g).1 + zc (g.drop (runL g).1)) := by
        rcases hat with ⟨p, q⟩ | ⟨p, q, r, s, t⟩
        · exact Or.inl ⟨p, by rw [hgap]; exact decide_eq_false q⟩
        · exact Or.inr ⟨p, by rw [hgap]; exact decide_eq_true q, by omega, r, s, t⟩
      have hts := fun i x s h hx hi hf ht hft => tx_step (g := g) (f := (runL g).1) (t := (runL g).2) (gap := gap) (i := i) (x := x) (s := s) h hx hi hf ht hft H8.out
      have hord := (runK_ok g 8).1
      have hle : (runL g).2 ≤ 8 := by
        rcases hat with ⟨p, q⟩ | ⟨p, q, r, s, t⟩
        · have := runK_ok g 8; have e : runK g 8 = runL g := rfl; rw [e] at this
          obtain ⟨_, b, c⟩ := this
          by_cases h : (runL g).1 = (runL g).2
          · have := runK_eq g 8 (by rw [e]; exact h); rw [e] at this; omega
          · rw [if_neg h] at c
            have := zc_le (g.drop (runL g).1)
            rw [List.length_drop, H8.out] at this; omega
        · exact s
      have e8 : runK g 8 = runL g := rfl
      rw [e8] at hord
      rw [← HOUT.out] at hte
      clear hat hgap HA
      generalize (runL g).1 = f at *
      generalize (runL g).2 = t at *
      have HTS := Lib.hid hts; have HTE := Lib.hid hte; clear hts hte
      have HAT := Lib.hid hat'
      go_wp2_with fail
      go_loopw [7, 8] (fun x y wr => ∃ (s : List UInt8) (i : Nat), x = .string (bs s) ∧ y = .int .i64 i ∧ i ≤ 8 ∧ s.length ≤ 6 * i + 2 ∧ Below w.heap.size w wr ∧ Hid (TxAt g f t gap i s)) (fun _ y _ => 8 - (intOf y).toNat)
      case atStart => exact ⟨[], 0, rfl, rfl, by omega, by simp, Below.refl _ _, Or.inl ⟨Or.inr (Nat.zero_le _), rfl⟩⟩
      case round =>
        obtain ⟨s, i, rfl, rfl, hi, hsl, hb, HX⟩ := hrel
        by_cases hi8 : i < 8
        · by_cases hg : gap = true ∧ i = f
          · obtain ⟨rfl, rfl⟩ := hg
            rcases HAT.out with ⟨_, h⟩ | ⟨rfl, _, h2, h3, h4, h5⟩
            · cases h
            have hq : ((i : Int) == (i : Int)) = true := by simp
            have hz := fun w => HZR.out i (by omega) w
            have hn := tx_gap HX.out (by omega) H8.out hle
            generalize zc (g.drop i) = z at *
            have HZ := Lib.hid hz; have HN := Lib.hid hn; clear hz hn HX HAT hat'
            rw [← bs_size] at hsl
            have s1 : ¬ 9223372036854775807 < (bs s).size + (bs [58, 58]).size := by omega
            go_wp2_with (go_at_call 143; (with_reducible refine (HZ.out _).mono ?_); rintro e w1 ⟨rfl, rfl⟩)
            go_roundw
            case rel =>
              refine ⟨s ++ [58, 58], t, by rw [bs_append], by go_num, by omega, ?_, hb, HN.out⟩
              rw [bs_size] at hsl; simp; omega
            case measure => simp [intOf]; omega
          · have hq : ((i : Int) == a) = false := by
              rw [beq_eq_false_iff_ne]
              rcases HAT.out with ⟨rfl, _⟩ | ⟨rfl, h1, _⟩
              · omega
              · intro h; exact hg ⟨h1, by omega⟩
            obtain ⟨x, ex, lx, dx⟩ := HE.out i hi8
            have hst := HTS.out i x s HX.out ex hi8 hg hle hord
            have hgk := fun w => HGR.out i hi8 w
            rw [dx] at hgk
            have HGK := Lib.hid hgk; clear hgk ex dx HX hg
            have lh := hexs4 x lx
            rcases hst with ⟨rfl, hn⟩ | ⟨y, r, rfl, rfl, hn⟩ | ⟨y, r, rfl, hy, hn⟩
            · have HN := Lib.hid hn; clear hn
              have s1 : ¬ 9223372036854775807 < (bs []).size + (bs (hexs x)).size := by rw [bs_size, bs_size]; simp; omega
              have s2 : (bs []).toList.isEmpty = true := by decide +kernel
              go_wp2_with (first | (go_at_call 145; (with_reducible refine (HGK.out _).mono ?_); rintro e w1 ⟨rfl, rfl⟩) | (go_at_call 144; (with_reducible refine (refHexN x lx _).mono ?_); rintro e w2 ⟨rfl, hb3⟩))
              go_roundw
              case rel => exact ⟨hexs x, i + 1, by rw [bs_append]; rfl, by go_num, by omega, by omega, below2 hb hb3, HN.out⟩
              case measure => simp [intOf]; omega
            · have HN := Lib.hid hn; clear hn
              have hsz := bs_size (r ++ [58])
              obtain ⟨sb, he, hsb, hse, hsi⟩ := str_last r 58
              rw [← he] at hsz
              rw [← he]
              have HE1 := Lib.hid he; clear he
              have s4 : (0 : Int) ≤ (sb.size : Int) - 1 := by omega
              have s5 : sb.size ≤ 100 := by omega
              rw [← bs_size] at lh
              have q1 : (((58 : UInt8).toNat : Int) != 58) = false := by rfl
              clear hsz
              have s2 : ¬ 9223372036854775807 < sb.size + (bs (hexs x)).size := by omega
              have s3 : ¬ 9223372036854775807 < sb.size + (bs [58]).size := by omega
              have s6 : ¬ 9223372036854775807 < sb.size + (bs [58]).size + (bs (hexs x)).size := by omega
              go_wp2_with (first | (go_at_call 145; (with_reducible refine (HGK.out _).mono ?_); rintro e w1 ⟨rfl, rfl⟩) | (go_at_call 144; (with_reducible refine (refHexN x lx _).mono ?_); rintro e w2 ⟨rfl, hb3⟩))
              go_roundw
              case rel =>
                refine ⟨_, i + 1, by rw [HE1.out, bs_append], by go_num, by omega, ?_, below2 hb hb3, HN.out⟩
                rw [bs_size] at lh
                simp at *; omega
              case measure => simp [intOf]; omega
            · have HN := Lib.hid hn; clear hn
              have hsz := bs_size (r ++ [y])
              obtain ⟨sb, he, hsb, hse, hsi⟩ := str_last r y
              rw [← he] at hsz
              rw [← he]
              have HE1 := Lib.hid he; clear he
              have s4 : (0 : Int) ≤ (sb.size : Int) - 1 := by omega
              have s5 : sb.size ≤ 100 := by omega
              rw [← bs_size] at lh
              have q1 : ((y.toNat : Int) != 58) = true := by rw [show (58 : Int) = ((58 : UInt8).toNat : Int) from rfl]; rw [bne_iff_ne]; intro h; exact hy (UInt8.toNat_inj.1 (by omega))
              clear hsz
              have s2 : ¬ 9223372036854775807 < sb.size + (bs (hexs x)).size := by omega
              have s3 : ¬ 9223372036854775807 < sb.size + (bs [58]).size := by omega
              have s6 : ¬ 9223372036854775807 < sb.size + (bs [58]).size + (bs (hexs x)).size := by omega
              go_wp2_with (first | (go_at_call 145; (with_reducible refine (HGK.out _).mono ?_); rintro e w1 ⟨rfl, rfl⟩) | (go_at_call 144; (with_reducible refine (refHexN x lx _).mono ?_); rintro e w2 ⟨rfl, hb3⟩))
              go_roundw
              case rel =>
                refine ⟨_, i + 1, by rw [HE1.out, bs_append, bs_append], by go_num, by omega, ?_, below2 hb hb3, HN.out⟩
                rw [bs_size] at lh
                simp at *; omega
              case measure => simp [intOf]; omega
        · obtain rfl : i = 8 := by omega
          have he := HTE.out s HX.out (fun h => by rcases HAT.out with ⟨_, h2⟩ | ⟨_, _, _, h3, _⟩; · rw [h] at h2; cases h2
                                                   · exact h3)
          have HEE := Lib.hid he; clear he
          go_wp2_with fail
          go_ret
          exact ⟨ret_str (congrArg bs HEE.out), hb⟩
end Go.Proofs.Ytdjmejdfcceknaa
