/- The contracts of heap and of its reference: what is only read. -/
import Derived.Test.YtppmjbnhghaffaaRows
import Derived.Test.YtppmjbnhghaffaaRow
import Derived.Test.YtppmjbnhghaffaaPlIt
import Derived.Test.YtppmjbnhghaffaaOrd
import Derived.Test.YtppmjbnhghaffaaCells
import Derived.WalkKit
import Derived.WalkSpells
import Derived.WalkLawsBesides
import Derived.BigGuardPart
import Derived.BigQuiet
import Derived.Deep.QuietTactic
import Derived.Deep.Light
import Derived.Deep.RegionHeld3
namespace Go.Proofs.Ytppmjbnhghaffaa
open Go.RowKit

set_option maxRecDepth 100000 in
theorem order_any (a b : It) (w : World) : Calls Try.prog 87 #[.agg #[.int .i64 a.key, .bool a.en.ad.v6, .int .u64 a.en.ad.hi, .int .u64 a.en.ad.lo, .int .i64 a.en.port], .agg #[.int .i64 b.key, .bool b.en.ad.v6, .int .u64 b.en.ad.hi, .int .u64 b.en.ad.lo, .int .i64 b.en.port]] w fun e w' => e = .returned (.int .i64 (itCmp a b)) ∧ Below w.heap.size w w' := by
  have ho := Lib.hid (fun (w : World) => or_any (.slice (some ⟨w.heap.size, 0, none⟩) 2 2) [cmpI a.key b.key, enCmp a.en b.en] (w.alloc (.cells #[.int .i64 (cmpI a.key b.key), .int .i64 (enCmp a.en b.en)] 3)) ((BlockIs.new w [.int .i64 (cmpI a.key b.key), .int .i64 (enCmp a.en b.en)] 3).reads rfl (by decide)))
  have z0 : w.heap.size < w.heap.size + 1 + 1 := by omega
  go_enter Try.func87, Try.ntmps87
  go_wp2_with fail
  go_region_held3 (fun w' => w'.cell? ⟨w.heap.size, 0, none⟩ = some (.int .i64 a.key) ∧ w'.cell? ⟨w.heap.size, 1, none⟩ = some (.bool a.en.ad.v6) ∧ w'.cell? ⟨w.heap.size, 2, none⟩ = some (.int .u64 a.en.ad.hi) ∧ w'.cell? ⟨w.heap.size, 3, none⟩ = some (.int .u64 a.en.ad.lo) ∧ w'.cell? ⟨w.heap.size, 4, none⟩ = some (.int .i64 a.en.port) ∧ w'.cell? ⟨w.heap.size + 1, 0, none⟩ = some (.int .i64 b.key) ∧ w'.cell? ⟨w.heap.size + 1, 1, none⟩ = some (.bool b.en.ad.v6) ∧ w'.cell? ⟨w.heap.size + 1, 2, none⟩ = some (.int .u64 b.en.ad.hi) ∧ w'.cell? ⟨w.heap.size + 1, 3, none⟩ = some (.int .u64 b.en.ad.lo) ∧ w'.cell? ⟨w.heap.size + 1, 4, none⟩ = some (.int .i64 b.en.port)) (first | go_keep | (simp (disch := omega) [*])) (first | (go_at_call 131; refine (enCmp_any a.en b.en _).mono ?_; rintro e w1 ⟨rfl, b1⟩; obtain ⟨c1, f1⟩ := bcell b1; have z1 := b1.size; (try simp at z1)) | (go_at_call 130; refine (cmpInt_any _ _ _).mono ?_; rintro e w' ⟨rfl, rfl⟩) | (go_at_call 129; refine (ho.out _).mono ?_; rintro e w' ⟨rfl, rfl⟩))
  go_wp2_with fail
  go_ret
  refine ⟨rfl, ?_⟩
  repeat (first | assumption | exact Below.refl _ _ | refine Below.alloc ?_ (by first | omega | (simp; done) | (simp; omega)) _ | refine Below.drew ?_ | (refine Below.trans ?_ (Below.mono (by assumption) (by first | omega | (simp; done) | (simp; omega)))))
theorem ahead_any (a b : It) (w : World) : Calls Try.prog 31 #[.agg #[.int .i64 a.key, .bool a.en.ad.v6, .int .u64 a.en.ad.hi, .int .u64 a.en.ad.lo, .int .i64 a.en.port], .agg #[.int .i64 b.key, .bool b.en.ad.v6, .int .u64 b.en.ad.hi, .int .u64 b.en.ad.lo, .int .i64 b.en.port]] w fun e w' => e = .returned (.bool (itLt a b)) ∧ Below w.heap.size w w' := by
  go_enter Try.func31, Try.ntmps31
  go_wp2_with (go_at_call 87; refine (order_any a b _).mono ?_; rintro e w1 ⟨rfl, b1⟩)
  go_ret
  refine ⟨rfl, ?_⟩
  repeat (first | assumption | exact Below.refl _ _ | refine Below.alloc ?_ (by first | omega | (simp; done) | (simp; omega)) _ | refine Below.drew ?_ | (refine Below.trans ?_ (Below.mono (by assumption) (by first | omega | (simp; done) | (simp; omega)))))
theorem itLt_ne {a b : It} (h : a.key ≠ b.key) : itLt a b = decide (a.key < b.key) := by
  unfold itLt itCmp; rw [orI_two, if_neg (fun e => h (cmpI_zero e))]; rw [decide_eq_decide]; exact cmp_lt_iff _ _
theorem itLt_eq {a b : It} (h : a.key = b.key) : itLt a b = decide (enCmp a.en b.en < 0) := by
  unfold itLt itCmp; rw [orI_two, h, cmpI_self, if_pos rfl]
theorem refAhead_any (a b : It) (w : World) : Calls Try.prog 32 #[.agg #[.int .i64 a.key, .bool a.en.ad.v6, .int .u64 a.en.ad.hi, .int .u64 a.en.ad.lo, .int .i64 a.en.port], .agg #[.int .i64 b.key, .bool b.en.ad.v6, .int .u64 b.en.ad.hi, .int .u64 b.en.ad.lo, .int .i64 b.en.port]] w fun e w' => e = .returned (.bool (itLt a b)) ∧ Below w.heap.size w w' := by
  have z0 : w.heap.size < w.heap.size + 1 + 1 := by omega
  go_enter Try.func32, Try.ntmps32
  go_wp2_with (go_at_call 88; refine (refEnCmp_any a.en b.en _).mono ?_; rintro e w1 ⟨rfl, b1⟩)
  · go_ret
    refine ⟨by rw [itLt_ne (bne_t ‹_›)]; rfl, ?_⟩
    repeat (first | assumption | exact Below.refl _ _ | refine Below.alloc ?_ (by first | omega | (simp; done) | (simp; omega)) _ | refine Below.drew ?_ | (refine Below.trans ?_ (Below.mono (by assumption) (by first | omega | (simp; done) | (simp; omega)))))
  · go_ret
    refine ⟨by rw [itLt_eq (bne_f ‹_›)]; rfl, ?_⟩
    repeat (first | assumption | exact Below.refl _ _ | refine Below.alloc ?_ (by first | omega | (simp; done) | (simp; omega)) _ | refine Below.drew ?_ | (refine Below.trans ?_ (Below.mono (by assumption) (by first | omega | (simp; done) | (simp; omega)))))
theorem parent_any (i : Int) (h0 : 1 ≤ i) (h1 : i ≤ 9223372036854775807) (w : World) : Calls Try.prog 86 #[.int .i64 i] w fun e w' => e = .returned (.int .i64 ((i - 1) / 2)) ∧ w = w' := by
  go_enter Try.func86, Try.ntmps86
  go_wp2_with fail
  go_ret
  exact ⟨rfl, rfl⟩
theorem parent_nat (k : Nat) (h0 : 1 ≤ k) (h1 : k ≤ 9223372036854775807) (w : World) : Calls Try.prog 86 #[.int .i64 k] w fun e w' => e = .returned (.int .i64 ((Hp.par k : Nat) : Int)) ∧ w = w' :=
  (parent_any k (by omega) (by omega) w).mono fun _ _ ⟨h2, h3⟩ => ⟨by rw [h2]; congr 2; unfold Hp.par; omega, h3⟩
/-- five cells of an item in a row -/
def itAt (w : World) (b o : Nat) (x : It) : Prop := w.cell? ⟨b, o, none⟩ = some (.int .i64 x.key) ∧ w.cell? ⟨b, o + 1, none⟩ = some (.bool x.en.ad.v6) ∧ w.cell? ⟨b, o + 2, none⟩ = some (.int .u64 x.en.ad.hi) ∧ w.cell? ⟨b, o + 3, none⟩ = some (.int .u64 x.en.ad.lo) ∧ w.cell? ⟨b, o + 4, none⟩ = some (.int .i64 x.en.port)
theorem it_open {w : World} {v : Value} {l : List It} (h : ReadsL itV 5 w v l) : l.length ≤ 9223372036854775807 ∧ ∃ (a : Option Addr) (c : Nat), v = .slice a l.length c ∧ (0 < l.length → ∃ b o, a = some ⟨b, o, none⟩ ∧ l.length ≤ c ∧ b < w.heap.size ∧
      ∀ (i : Nat) (x : It), l[i]? = some x → itAt w b (o + i * 5) x) := by
  obtain ⟨h1, a, c, h2, h3⟩ := h.open itV_len (by omega)
  refine ⟨h1, a, c, h2, fun hp => ?_⟩
  obtain ⟨b, o, h4, h5, h6, h7⟩ := h3 hp
  refine ⟨b, o, h4, h5, h6, fun i x hi => ⟨?_, ?_, ?_, ?_, ?_⟩⟩
  · have := h7 i x hi 0 _ rfl; simpa [Nat.add_assoc] using this
  · have := h7 i x hi 1 _ rfl; simpa [Nat.add_assoc] using this
  · have := h7 i x hi 2 _ rfl; simpa [Nat.add_assoc] using this
  · have := h7 i x hi 3 _ rfl; simpa [Nat.add_assoc] using this
  · have := h7 i x hi 4 _ rfl; simpa [Nat.add_assoc] using this
theorem itAt_below {B : Nat} {w w' : World} {b o : Nat} {x : It} (h : itAt w b o x) (hb : Below B w w') (hlt : b < B) : itAt w' b o x :=
  ⟨keep hb hlt h.1, keep hb hlt h.2.1, keep hb hlt h.2.2.1, keep hb hlt h.2.2.2.1, keep hb hlt h.2.2.2.2⟩
theorem itAt_ext {w : World} {b o : Nat} {x : It} (h : itAt w b o x) (y : Grow) (hlt : b < w.heap.size) : itAt (ext w y) b o x := itAt_below h (ext_below w y) hlt
theorem below_then {B : Nat} {w w1 w2 : World} (b1 : Below B w w1) (b2 : Below w1.heap.size w1 w2) (hB : B ≤ w1.heap.size := by first | assumption | omega) : Below B w w2 := b1.trans (b2.mono hB)
theorem ok_snoc {l : List It} {k : Nat} {x p : It} (H : ∀ j, 0 < j → j < k → Hp.OkAt itLt l j) (hx : l[k]? = some x) (hp : l[Hp.par k]? = some p) (hl : itLt x p = false) : ∀ j, 0 < j → j < k + 1 → Hp.OkAt itLt l j := by
  intro j h0 hj
  by_cases e : j = k
  · subst e; intro a b ha hb
    rw [hx] at ha; rw [hp] at hb; injection ha with ha; injection hb with hb; subst ha; subst hb; exact hl
  · exact H j h0 (by omega)
theorem right_no {l : List It} {k : Nat} {x p : It} (hk : 1 ≤ k) (hx : l[k]? = some x) (hp : l[Hp.par k]? = some p) (hl : itLt x p = true) : Hp.rightB itLt l = false := by
  cases h : Hp.rightB itLt l
  · rfl
  · have := (Hp.rightB_iff l).1 h k (by omega) x p hx hp
    rw [hl] at this; cases this
theorem right_yes {l : List It} {k : Nat} (H : ∀ j, 0 < j → j < k → Hp.OkAt itLt l j) (hk : l.length ≤ k) : Hp.rightB itLt l = true := by
  rw [Hp.rightB_iff]
  intro j hj
  by_cases e : j < k
  · exact H j hj e
  · intro x p hx _
    have := (List.getElem?_eq_some_iff.1 hx).1; omega
set_option maxRecDepth 100000 in
theorem right_any (v : Value) (l : List It) (w : World) (h : ReadsL itV 5 w v l) : Calls Try.prog 27 #[v] w fun e w' => e = .returned (.bool (Hp.rightB itLt l)) ∧ Below w.heap.size w w' := by
  obtain ⟨hm, a, c, rfl, h3⟩ := it_open h
  go_enter Try.func27, Try.ntmps27
  go_wp2_with fail
  go_loopw [3] (fun i wr => ∃ k : Nat, 1 ≤ k ∧ k ≤ l.length + 1 ∧ i = .int .i64 k ∧ Hid (∀ j, 0 < j → j < k → Hp.OkAt itLt l j) ∧ Below w.heap.size w wr) (fun i _ => l.length - (intOf i).toNat)
  case atStart => exact ⟨1, by omega, by omega, rfl, fun j h1 h2 => by omega, Below.refl _ _⟩
  case round =>
    obtain ⟨k, hk1, hk, rfl, HK, hb⟩ := hrel
    by_cases hlt : k < l.length
    · obtain ⟨b, o, rfl, h4, h5, h6⟩ := h3 (by omega)
      have hpl : Hp.par k < l.length := by unfold Hp.par; omega
      obtain ⟨x, hx⟩ : ∃ x, l[k]? = some x := ⟨_, List.getElem?_eq_getElem hlt⟩
      obtain ⟨p, hp⟩ : ∃ p, l[Hp.par k]? = some p := ⟨_, List.getElem?_eq_getElem hpl⟩
      have X := fun y => itAt_ext (itAt_below (h6 k x hx) hb h5) y (Nat.lt_of_lt_of_le h5 hb.size)
      have P := fun y => itAt_ext (itAt_below (h6 _ p hp) hb h5) y (Nat.lt_of_lt_of_le h5 hb.size)
      have x0 := fun y => (X y).1; have x1 := fun y => (X y).2.1; have x2 := fun y => (X y).2.2.1; have x3 := fun y => (X y).2.2.2.1; have x4 := fun y => (X y).2.2.2.2
      have p0 := fun y => (P y).1; have p1 := fun y => (P y).2.1; have p2 := fun y => (P y).2.2.1; have p3 := fun y => (P y).2.2.2.1; have p4 := fun y => (P y).2.2.2.2
      have q1 : (0 : Int) ≤ (k : Int) := by omega
      have q2 : (k : Int) < (l.length : Int) := by omega
      have q3 : (0 : Int) ≤ ((Hp.par k : Nat) : Int) := by omega
      have q4 : ((Hp.par k : Nat) : Int) < (l.length : Int) := by omega
      have HX := Lib.hid hx; have HP := Lib.hid hp
      clear hx hp h6 h3 X P
      go_wp2_with fail
      refine wp_region_ext (by kernel_rfl) (by kernel_rfl) ?_
      repeat (go_big_quiet_step ((first | (go_at_call 86; exact qs (parent_nat k hk1 (by omega) _)) | (go_at_call 31; exact qe (ahead_any x p _)))))
      refine wpQuiet_nil ?_
      intro _ hw'
      obtain ⟨y, hw''⟩ := hw'
      subst hw''
      clear x0 x1 x2 x3 x4 p0 p1 p2 p3 p4
      have hb2 := below2 hb (ext_below wr y)
      cases hl : itLt x p
      · have HL := Lib.hid hl
        clear hl
        go_wp2_with fail
        go_roundw
        case rel => exact ⟨k + 1, by omega, by omega, by go_num, ok_snoc HK.out HX.out HP.out HL.out, hb2⟩
        case measure => simp [intOf]; omega
      · have HL := Lib.hid hl
        clear hl
        go_wp2_with fail
        go_ret
        exact ⟨ret_of (by rw [right_no hk1 HX.out HP.out HL.out]; rfl), hb2⟩
    · go_wp2_with fail
      go_ret
      exact ⟨ret_of (by rw [right_yes HK.out (by omega)]; rfl), hb⟩
/-- the pairs of a place and one below it -/
def Kid (l : List It) (i k : Nat) : Prop := ∀ x p, l[k]? = some x → l[i]? = some p → itLt x p = false
theorem kid_right {l : List It} {i : Nat} (H : ∀ i', i' < i → Kid l i' (2 * i' + 1) ∧ Kid l i' (2 * i' + 2)) (hi : l.length ≤ i) : Hp.rightB itLt l = true := by
  rw [Hp.rightB_iff]
  intro j hj x p hx hp
  have h1 := (List.getElem?_eq_some_iff.1 hx).1
  have h2 := (List.getElem?_eq_some_iff.1 hp).1
  have h3 := H (Hp.par j) (by omega)
  rcases Hp.par_cases j _ hj rfl with e | e
  · exact h3.1 x p (by rw [← e]; exact hx) hp
  · exact h3.2 x p (by rw [← e]; exact hx) hp
theorem kid_no {l : List It} {i k : Nat} {x p : It} (hk : k = 2 * i + 1 ∨ k = 2 * i + 2) (hx : l[k]? = some x) (hp : l[i]? = some p) (hl : itLt x p = true) : Hp.rightB itLt l = false :=
  right_no (k := k) (by omega) hx (by rw [show Hp.par k = i from by unfold Hp.par; omega]; exact hp) hl
theorem kid_out {l : List It} {i k : Nat} (h : l.length ≤ k) : Kid l i k := fun x p hx _ => by
  have := (List.getElem?_eq_some_iff.1 hx).1; omega
theorem kid_one {l : List It} {i k : Nat} {x p : It} (hx : l[k]? = some x) (hp : l[i]? = some p) (hl : itLt x p = false) : Kid l i k := fun a b ha hb => by
  rw [hx] at ha; rw [hp] at hb; injection ha with ha; injection hb with hb; subst ha; subst hb; exact hl
set_option maxRecDepth 100000 in
set_option maxHeartbeats 400000 in
theorem refRight_any (v : Value) (l : List It) (w : World) (h : ReadsL itV 5 w v l) (hl : l.length ≤ 1000000) : Calls Try.prog 29 #[v] w fun e w' => e = .returned (.bool (Hp.rightB itLt l)) ∧ Below w.heap.size w w' := by
  obtain ⟨hm, a, c, rfl, h3⟩ := it_open h
  go_enter Try.func29, Try.ntmps29
  go_wp2_with fail
  go_loopw [3, 4] (fun i _ wr => ∃ k : Nat, k ≤ l.length ∧ i = .int .i64 k ∧ Hid (∀ i', i' < k → Kid l i' (2 * i' + 1) ∧ Kid l i' (2 * i' + 2)) ∧ Below w.heap.size w wr) (fun i _ _ => l.length - (intOf i).toNat)
  case atStart => exact ⟨0, by omega, rfl, fun j h1 => by omega, Below.refl _ _⟩
  case round =>
    obtain ⟨i, hi, rfl, HK, hb⟩ := hrel
    obtain ⟨wo, rfl⟩ : ∃ wo : World, wo = wr := ⟨_, rfl⟩
    by_cases hlt : i < l.length
    · obtain ⟨b, o, rfl, h4, h5, h6⟩ := h3 (by omega)
      go_wp2_with fail
      go_loopw [4] (fun k wr => ∃ k' : Nat, k = .int .i64 k' ∧ 2 * i + 1 ≤ k' ∧ k' ≤ 2 * i + 3 ∧ Hid (∀ q, 2 * i + 1 ≤ q → q < k' → Kid l i q) ∧ Below w.heap.size w wr) (fun k _ => 2 * i + 3 - (intOf k).toNat)
      case atStart => exact ⟨2 * i + 1, by go_num, by omega, by omega, fun q h1 h2 => by omega, hb⟩
      case round =>
        obtain ⟨k, rfl, hk1, hk2, HQ, hbr⟩ := hrel
        by_cases hk3 : k ≤ 2 * i + 2
        · have hk5 : (k : Int) ≤ 2 * (i : Int) + 2 := by omega
          by_cases hk4 : k < l.length
          · obtain ⟨x, hx⟩ : ∃ x, l[k]? = some x := ⟨_, List.getElem?_eq_getElem hk4⟩
            obtain ⟨p, hp⟩ : ∃ p, l[i]? = some p := ⟨_, List.getElem?_eq_getElem hlt⟩
            have X := fun y => itAt_ext (itAt_below (h6 k x hx) hbr h5) y (Nat.lt_of_lt_of_le h5 hbr.size)
            have P := fun y => itAt_ext (itAt_below (h6 i p hp) hbr h5) y (Nat.lt_of_lt_of_le h5 hbr.size)
            have x0 := fun y => (X y).1; have x1 := fun y => (X y).2.1; have x2 := fun y => (X y).2.2.1; have x3 := fun y => (X y).2.2.2.1; have x4 := fun y => (X y).2.2.2.2
            have p0 := fun y => (P y).1; have p1 := fun y => (P y).2.1; have p2 := fun y => (P y).2.2.1; have p3 := fun y => (P y).2.2.2.1; have p4 := fun y => (P y).2.2.2.2
            have q1 : (0 : Int) ≤ (k : Int) := by omega
            have q2 : (k : Int) < (l.length : Int) := by omega
            have q3 : (0 : Int) ≤ (i : Int) := by omega
            have q4 : (i : Int) < (l.length : Int) := by omega
            have HX := Lib.hid hx; have HP := Lib.hid hp
            clear hx hp X P h6 h3
            go_wp2_with fail
            refine wp_region_ext (by kernel_rfl) (by kernel_rfl) ?_
            repeat (go_big_quiet_step ((go_at_call 32; exact qe (refAhead_any x p _))))
            refine wpQuiet_nil ?_
            intro _ hw'
            obtain ⟨y, hw''⟩ := hw'
            subst hw''
            clear x0 x1 x2 x3 x4 p0 p1 p2 p3 p4
            have hb2 := below2 hbr (ext_below wr y)
            cases hl : itLt x p
            · have HL := Lib.hid hl
              clear hl
              go_wp2_with fail
              go_roundw
              case rel => exact ⟨k + 1, by go_num, by omega, by omega, fun q h1 h2 => by
                by_cases e : q = k
                · subst e; exact kid_one HX.out HP.out HL.out
                · exact HQ.out q h1 (by omega), hb2⟩
              case measure => simp [intOf]; omega
            · have HL := Lib.hid hl
              clear hl
              go_wp2_with fail
              go_ret
              exact ⟨ret_of (by rw [kid_no (by omega) HX.out HP.out HL.out]; rfl), hb2⟩
          · go_wp2_with fail
            go_roundw
            case rel => exact ⟨i + 1, by omega, by go_num, fun i' h => by
              by_cases e : i' = i
              · subst e
                refine ⟨?_, ?_⟩
                · by_cases e2 : 2 * i' + 1 < k
                  · exact HQ.out _ (by omega) e2
                  · exact kid_out (by omega)
                · by_cases e2 : 2 * i' + 2 < k
                  · exact HQ.out _ (by omega) e2
                  · exact kid_out (by omega)
              · exact HK.out i' (by omega), hbr⟩
            case measure => simp [intOf]; omega
        · have hk5 : ¬ (k : Int) ≤ 2 * (i : Int) + 2 := by omega
          go_wp2_with fail
          go_roundw
          case rel => exact ⟨i + 1, by omega, by go_num, fun i' h => by
            by_cases e : i' = i
            · subst e; exact ⟨HQ.out _ (by omega) (by omega), HQ.out _ (by omega) (by omega)⟩
            · exact HK.out i' (by omega), hbr⟩
          case measure => simp [intOf]; omega
    · go_wp2_with fail
      go_ret
      exact ⟨ret_of (by rw [kid_right HK.out (by omega)]; rfl), hb⟩
end Go.Proofs.Ytppmjbnhghaffaa
