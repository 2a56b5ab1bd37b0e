/- The contracts of the reference of replies, and of lists of lines. -/
import Derived.Test.YtnohkfbapibmdaaReply
namespace Go.Proofs.Ytnohkfbapibmdaa
open Go.RowKit

/-- ten cells of a peer in a row -/
def peIn (w : World) (b o : Nat) (p : Pe) : Prop := w.cell? ⟨b, o, none⟩ = some (.bool p.en.ad.v6) ∧ w.cell? ⟨b, o + 1, none⟩ = some (.int .u64 p.en.ad.hi) ∧ w.cell? ⟨b, o + 2, none⟩ = some (.int .u64 p.en.ad.lo) ∧ w.cell? ⟨b, o + 3, none⟩ = some (.int .i64 p.en.port) ∧ w.cell? ⟨b, o + 4, none⟩ = some (.bool p.came) ∧ w.cell? ⟨b, o + 5, none⟩ = some (.int .i64 p.since) ∧ w.cell? ⟨b, o + 6, none⟩ = some (.int .i64 p.pts) ∧ w.cell? ⟨b, o + 7, none⟩ = some (.int .i64 p.at_) ∧ w.cell? ⟨b, o + 8, none⟩ = some (.int .i64 p.ping) ∧ w.cell? ⟨b, o + 9, none⟩ = some (.int .i64 p.work)
theorem pe_open {w : World} {v : Value} {l : List Pe} (h : ReadsL peV 10 w v l) : l.length ≤ 9223372036854775807 ∧ ∃ (a : Option Addr) (c : Nat), v = .slice a l.length c ∧ (0 < l.length → ∃ b o, a = some ⟨b, o, none⟩ ∧ l.length ≤ c ∧ b < w.heap.size ∧
      ∀ (i : Nat) (p : Pe), l[i]? = some p → peIn w b (o + i * 10) p) := by
  obtain ⟨h1, a, c, h2, h3⟩ := h.open peV_len (by omega)
  refine ⟨h1, a, c, h2, fun hp => ?_⟩
  obtain ⟨b, o, h4, h5, h6, h7⟩ := h3 hp
  refine ⟨b, o, h4, h5, h6, fun i x hi => ⟨?_, ?_, ?_, ?_, ?_, ?_, ?_, ?_, ?_, ?_⟩⟩
  · have := h7 i x hi 0 _ rfl; simpa [Nat.add_assoc] using this
  · have := h7 i x hi 1 _ rfl; simpa [Nat.add_assoc] using this
  · have := h7 i x hi 2 _ rfl; simpa [Nat.add_assoc] using this
  · have := h7 i x hi 3 _ rfl; simpa [Nat.add_assoc] using this
  · have := h7 i x hi 4 _ rfl; simpa [Nat.add_assoc] using this
  · have := h7 i x hi 5 _ rfl; simpa [Nat.add_assoc] using this
  · have := h7 i x hi 6 _ rfl; simpa [Nat.add_assoc] using this
  · have := h7 i x hi 7 _ rfl; simpa [Nat.add_assoc] using this
  · have := h7 i x hi 8 _ rfl; simpa [Nat.add_assoc] using this
  · have := h7 i x hi 9 _ rfl; simpa [Nat.add_assoc] using this
theorem peIn.below {B : Nat} {w w' : World} {b o : Nat} {p : Pe} (h : peIn w b o p) (hb : Below B w w') (hlt : b < B) : peIn w' b o p := by
  obtain ⟨a0, a1, a2, a3, a4, a5, a6, a7, a8, a9⟩ := h
  exact ⟨keep hb hlt a0, keep hb hlt a1, keep hb hlt a2, keep hb hlt a3, keep hb hlt a4, keep hb hlt a5, keep hb hlt a6, keep hb hlt a7, keep hb hlt a8, keep hb hlt a9⟩
/-- a reply in a block -/
def RpAt (w : World) (B : Nat) (code : Int) (e : En) (n till : Int) (v : Value) : Prop := w.cell? ⟨B, 0, none⟩ = some (.int .i64 code) ∧ w.cell? ⟨B, 1, none⟩ = some (.bool e.ad.v6) ∧ w.cell? ⟨B, 2, none⟩ = some (.int .u64 e.ad.hi) ∧ w.cell? ⟨B, 3, none⟩ = some (.int .u64 e.ad.lo) ∧ w.cell? ⟨B, 4, none⟩ = some (.int .i64 e.port) ∧ w.cell? ⟨B, 5, none⟩ = some (.int .i64 n) ∧ w.cell? ⟨B, 6, none⟩ = some (.int .i64 till) ∧ w.cell? ⟨B, 7, none⟩ = some (v)
theorem RpAt.below {C : Nat} {w w' : World} {B : Nat} {code n till : Int} {e : En} {v : Value} (h : RpAt w B code e n till v) (hb : Below C w w') (hlt : B < C) : RpAt w' B code e n till v := by
  obtain ⟨a0, a1, a2, a3, a4, a5, a6, a7⟩ := h
  exact ⟨keep hb hlt a0, keep hb hlt a1, keep hb hlt a2, keep hb hlt a3, keep hb hlt a4, keep hb hlt a5, keep hb hlt a6, keep hb hlt a7⟩
theorem tail_end (e : En) : tailL (endL e) = if e = zeroEn then [] else [32, 101, 110, 100, 61] ++ enText e := by
  unfold endL eqL endW; split
  · rfl
  · rw [tailL_one]; simp
theorem tail_named (name : List UInt8) (n : Int) : tailL (namedL name n) = if n = 0 then [] else 32 :: (name ++ [61]) ++ decText n := by
  unfold namedL eqL; split
  · rfl
  · rw [tailL_one]; simp
set_option maxRecDepth 100000 in
set_option maxHeartbeats 8000000 in
theorem refRpText_any (code : Int) (e : En) (n till : Int) (a : Option Addr) (k c : Nat) (hf : e.ad.fits) (hn : i64 n) (ht : i64 till) (hk : k ≤ 9223372036854775807) (w : World) :
    Calls Try.prog 16 #[.agg #[.int .i64 code, .bool e.ad.v6, .int .u64 e.ad.hi, .int .u64 e.ad.lo, .int .i64 e.port, .int .i64 n, .int .i64 till, .slice a k c]] w fun r w' => r = .returned (.string (bs (rpText code e n till k))) ∧ Below w.heap.size w w' := by
  have hk2 : i64 (k : Int) := ⟨by omega, by omega⟩
  have hlen := rpText_len code e n till k hf hn ht hk2
  have hC := fun w => refErr_any code w
  have HE := Lib.hid (fun w => refEnText_any e hf w)
  have HN1 := Lib.hid (fun w => refText_any n hn.1 hn.2 w)
  have HN2 := Lib.hid (fun w => refText_any till ht.1 ht.2 w)
  have HN3 := Lib.hid (fun w => refText_any (k : Int) hk2.1 hk2.2 w)
  have hq := fun W => neqEn e zeroEn W
  obtain ⟨z, hz0⟩ : ∃ z, decide (e = zeroEn) = z := ⟨_, rfl⟩
  rw [hz0] at hq
  have HZ := Lib.hid hz0
  clear hz0
  unfold zeroEn at hq
  simp only [show ((0 : Nat) : Int) = 0 from rfl] at hq
  rw [rpText_eq] at hlen ⊢
  have hh : headL code = if nameAt errN code = [] then [45] else nameAt errN code := rfl
  rw [tail_end, tail_named, tail_named, tail_named] at hlen ⊢
  unfold nW untilW peersW at hlen ⊢
  have d1 := decText_len n hn.1 hn.2; have d2 := decText_len till ht.1 ht.2; have d3 := decText_len k hk2.1 hk2.2
  generalize headL code = hd at *
  generalize nameAt errN code = nm at *
  generalize enText e = te at *
  generalize decText n = tn at *
  generalize decText till = tt at *
  generalize decText (k : Int) = tk at *
  obtain ⟨P1, hP1⟩ : ∃ P, P = hd ++ (if e = zeroEn then [] else [32, 101, 110, 100, 61] ++ te) := ⟨_, rfl⟩
  obtain ⟨P2, hP2⟩ : ∃ P, P = P1 ++ (if n = 0 then [] else 32 :: ([110] ++ [61]) ++ tn) := ⟨_, rfl⟩
  obtain ⟨P3, hP3⟩ : ∃ P, P = P2 ++ (if till = 0 then [] else 32 :: ([117, 110, 116, 105, 108] ++ [61]) ++ tt) := ⟨_, rfl⟩
  obtain ⟨P4, hP4⟩ : ∃ P, P = P3 ++ (if (k : Int) = 0 then [] else 32 :: ([112, 101, 101, 114, 115] ++ [61]) ++ tk) := ⟨_, rfl⟩
  rw [← hP1, ← hP2, ← hP3, ← hP4] at hlen
  rw [← hP1, ← hP2, ← hP3, ← hP4]
  have l4 : P3.length ≤ 3000 := by rw [hP4] at hlen; simp at hlen; omega
  have l3 : P2.length ≤ 3000 := by rw [hP3] at l4; simp at l4; omega
  have l2 : P1.length ≤ 3000 := by rw [hP2] at l3; simp at l3; omega
  have l1 : hd.length ≤ 3000 := by rw [hP1] at l2; simp at l2; omega
  have le : e ≠ zeroEn → te.length ≤ 3000 := fun h => by rw [hP1, if_neg h] at l2; simp at l2; omega
  have HC := Lib.hid hC; have HP1 := Lib.hid hP1; have HP2 := Lib.hid hP2; have HP3 := Lib.hid hP3; have HP4 := Lib.hid hP4; have HH := Lib.hid hh
  clear hC hP1 hP2 hP3 hP4 hh hlen hk2
  go_enter Try.func16, Try.ntmps16
  go_upto_if 8 with (go_at_call 75; (with_reducible refine (HC.out _).mono ?_); rintro e w1 ⟨rfl, rfl⟩)
  obtain ⟨b0, hb0⟩ : ∃ b, (bs nm).toList.isEmpty = b := ⟨_, rfl⟩
  rw [hb0]
  have HB0 := Lib.hid hb0; clear hb0
  go_cut [3] (fun s wx => s = .string (bs hd) ∧ RpAt wx w.heap.size code e n till (.slice a k c) ∧ Below w.heap.size w wx ∧ w.heap.size < wx.heap.size)
  case first =>
    by_cases h0 : nm = []
    · obtain rfl : b0 = true := HB0.out.symm.trans (by rw [bs_toL, h0]; rfl)
      have hP : hd = [45] := by have := HH.out; rw [if_pos h0] at this; exact this
      go_wp2_with fail
      go_meet
      exact ⟨by first | (rw [hP]; done) | (rw [hP]; rfl), by unfold RpAt; simp [go_sem], (Below.refl _ _).alloc (Nat.le_refl _) _, by simp⟩
    · obtain rfl : b0 = false := HB0.out.symm.trans (by rw [bs_toL]; simpa using h0)
      have hP : hd = nm := by have := HH.out; rw [if_neg h0] at this; exact this
      go_wp2_with fail
      go_meet
      exact ⟨by first | (rw [hP]; done) | (rw [hP]; rfl), by unfold RpAt; simp [go_sem], (Below.refl _ _).alloc (Nat.le_refl _) _, by simp⟩
  case rest =>
  obtain ⟨rfl, hA, hb, hlt⟩ := hcut
  go_at_K
  obtain ⟨x0, x1, x2, x3, x4, x5, x6, x7⟩ := hA
  go_upto_if 12 with fail
  go_cut [3] (fun s wx => s = .string (bs P1) ∧ RpAt wx w.heap.size code e n till (.slice a k c) ∧ Below w.heap.size w wx ∧ w.heap.size < wx.heap.size)
  case first =>
    by_cases hz : e = zeroEn
    · have hP : P1 = hd := by have := HP1.out; rw [if_pos hz, List.append_nil] at this; exact this
      obtain rfl : z = true := HZ.out.symm.trans (decide_eq_true hz)
      clear hz
      go_wp2_with fail
      go_meet
      exact ⟨by first | (rw [hP]; done) | (rw [hP]; rfl), ⟨x0, x1, x2, x3, x4, x5, x6, x7⟩, hb, hlt⟩
    · have hP : bs P1 = bs hd ++ ⟨#[32, 101, 110, 100, 61]⟩ ++ bs te := by have := HP1.out; rw [if_neg hz] at this; rw [this, show (⟨#[32, 101, 110, 100, 61]⟩ : ByteArray) = bs [32, 101, 110, 100, 61] from rfl]; simp only [bs_append]; simp
      have s1 : ¬ 9223372036854775807 < (bs hd).size + 5 := by rw [bs_size]; omega
      have s2 : ¬ 9223372036854775807 < (bs hd).size + 5 + (bs te).size := by rw [bs_size, bs_size]; have := le hz; omega
      obtain rfl : z = false := HZ.out.symm.trans (decide_eq_false hz)
      clear hz
      go_wp2_with (go_at_call 76; (with_reducible refine (HE.out _).mono ?_); rintro e w2 ⟨rfl, b2⟩; have z2 := b2.size)
      go_meet
      exact ⟨by first | (rw [hP]; done) | (rw [hP]; rfl), RpAt.below ⟨x0, x1, x2, x3, x4, x5, x6, x7⟩ b2 hlt, below2 hb b2, by omega⟩
  case rest =>
  obtain ⟨rfl, hA, hb, hlt⟩ := hcut
  go_at_K
  obtain ⟨x0, x1, x2, x3, x4, x5, x6, x7⟩ := hA
  go_upto_if 21 with fail
  go_cut [3] (fun s wx => s = .string (bs P2) ∧ RpAt wx w.heap.size code e n till (.slice a k c) ∧ Below w.heap.size w wx ∧ w.heap.size < wx.heap.size)
  case first =>
    by_cases hz : n = 0
    · have hP : P2 = P1 := by have := HP2.out; rw [if_pos hz, List.append_nil] at this; exact this
      have q1 : (n != 0) = false := by simpa using hz
      clear hz
      go_wp2_with fail
      go_meet
      exact ⟨by first | (rw [hP]; done) | (rw [hP]; rfl), ⟨x0, x1, x2, x3, x4, x5, x6, x7⟩, hb, hlt⟩
    · have hP : bs P2 = bs P1 ++ ⟨#[32, 110, 61]⟩ ++ bs tn := by have := HP2.out; rw [if_neg hz] at this; rw [this, show (⟨#[32, 110, 61]⟩ : ByteArray) = bs [32, 110, 61] from rfl]; simp only [bs_append]; simp
      have s1 : ¬ 9223372036854775807 < (bs P1).size + 3 := by rw [bs_size]; omega
      have s2 : ¬ 9223372036854775807 < (bs P1).size + 3 + (bs tn).size := by rw [bs_size, bs_size]; have := d1; omega
      have q1 : (n != 0) = true := by simpa using hz
      clear hz
      go_wp2_with (go_at_call 77; (with_reducible refine (HN1.out _).mono ?_); rintro e w2 ⟨rfl, b2⟩; have z2 := b2.size)
      go_meet
      exact ⟨by first | (rw [hP]; done) | (rw [hP]; rfl), RpAt.below ⟨x0, x1, x2, x3, x4, x5, x6, x7⟩ b2 hlt, below2 hb b2, by omega⟩
  case rest =>
  obtain ⟨rfl, hA, hb, hlt⟩ := hcut
  go_at_K
  obtain ⟨x0, x1, x2, x3, x4, x5, x6, x7⟩ := hA
  go_upto_if 30 with fail
  go_cut [3] (fun s wx => s = .string (bs P3) ∧ RpAt wx w.heap.size code e n till (.slice a k c) ∧ Below w.heap.size w wx ∧ w.heap.size < wx.heap.size)
  case first =>
    by_cases hz : till = 0
    · have hP : P3 = P2 := by have := HP3.out; rw [if_pos hz, List.append_nil] at this; exact this
      have q1 : (till != 0) = false := by simpa using hz
      clear hz
      go_wp2_with fail
      go_meet
      exact ⟨by first | (rw [hP]; done) | (rw [hP]; rfl), ⟨x0, x1, x2, x3, x4, x5, x6, x7⟩, hb, hlt⟩
    · have hP : bs P3 = bs P2 ++ ⟨#[32, 117, 110, 116, 105, 108, 61]⟩ ++ bs tt := by have := HP3.out; rw [if_neg hz] at this; rw [this, show (⟨#[32, 117, 110, 116, 105, 108, 61]⟩ : ByteArray) = bs [32, 117, 110, 116, 105, 108, 61] from rfl]; simp only [bs_append]; simp
      have s1 : ¬ 9223372036854775807 < (bs P2).size + 7 := by rw [bs_size]; omega
      have s2 : ¬ 9223372036854775807 < (bs P2).size + 7 + (bs tt).size := by rw [bs_size, bs_size]; have := d2; omega
      have q1 : (till != 0) = true := by simpa using hz
      clear hz
      go_wp2_with (go_at_call 77; (with_reducible refine (HN2.out _).mono ?_); rintro e w2 ⟨rfl, b2⟩; have z2 := b2.size)
      go_meet
      exact ⟨by first | (rw [hP]; done) | (rw [hP]; rfl), RpAt.below ⟨x0, x1, x2, x3, x4, x5, x6, x7⟩ b2 hlt, below2 hb b2, by omega⟩
  case rest =>
  obtain ⟨rfl, hA, hb, hlt⟩ := hcut
  go_at_K
  obtain ⟨x0, x1, x2, x3, x4, x5, x6, x7⟩ := hA
  go_upto_if 40 with fail
  go_cut [3] (fun s wx => s = .string (bs P4) ∧ RpAt wx w.heap.size code e n till (.slice a k c) ∧ Below w.heap.size w wx ∧ w.heap.size < wx.heap.size)
  case first =>
    by_cases hz : (k : Int) = 0
    · have hP : P4 = P3 := by have := HP4.out; rw [if_pos hz, List.append_nil] at this; exact this
      have q1 : ¬ 0 < k := by omega
      clear hz
      go_wp2_with fail
      go_meet
      exact ⟨by first | (rw [hP]; done) | (rw [hP]; rfl), ⟨x0, x1, x2, x3, x4, x5, x6, x7⟩, hb, hlt⟩
    · have hP : bs P4 = bs P3 ++ ⟨#[32, 112, 101, 101, 114, 115, 61]⟩ ++ bs tk := by have := HP4.out; rw [if_neg hz] at this; rw [this, show (⟨#[32, 112, 101, 101, 114, 115, 61]⟩ : ByteArray) = bs [32, 112, 101, 101, 114, 115, 61] from rfl]; simp only [bs_append]; simp
      have s1 : ¬ 9223372036854775807 < (bs P3).size + 7 := by rw [bs_size]; omega
      have s2 : ¬ 9223372036854775807 < (bs P3).size + 7 + (bs tk).size := by rw [bs_size, bs_size]; have := d3; omega
      have q1 : 0 < k := by omega
      clear hz
      go_wp2_with (go_at_call 77; (with_reducible refine (HN3.out _).mono ?_); rintro e w2 ⟨rfl, b2⟩; have z2 := b2.size)
      go_meet
      exact ⟨by first | (rw [hP]; done) | (rw [hP]; rfl), RpAt.below ⟨x0, x1, x2, x3, x4, x5, x6, x7⟩ b2 hlt, below2 hb b2, by omega⟩
  case rest =>
  obtain ⟨rfl, hA, hb, hlt⟩ := hcut
  go_at_K
  go_wp2_with fail
  go_ret
  exact ⟨rfl, hb⟩
end Go.Proofs.Ytnohkfbapibmdaa
