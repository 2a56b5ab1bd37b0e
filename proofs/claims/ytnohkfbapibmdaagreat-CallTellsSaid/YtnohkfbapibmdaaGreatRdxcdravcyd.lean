/- Texts put together: RefCallB. No condition. -/
import Derived.Test.YtnohkfbapibmdaaGreatRkxixqffatb
namespace Go.Proofs.YtnohkfbapibmdaaGreat
open Go.RowKit
set_option linter.unusedSimpArgs false
set_option linter.unusedVariables false

theorem growText_len {c : Cl} (hf : c.fits) (k : Nat) : (growText c k).length ≤ 100000 := by
  have h1 := clText_len hf.a ⟨hf.now0, hf.now1⟩ ⟨hf.num0, hf.num1⟩
  rw [← growText_all] at h1
  have e : ∀ k, growText c k = joinL 32 ((nameAt callN c.kind :: (clParts c.kind).map (clWritten c)).take (k + 1)) := fun k => by unfold growText; rw [List.take_succ_cons, List.map_take]
  rw [e] at h1 ⊢
  rw [List.take_of_length_le (by simp)] at h1
  rcases Nat.lt_or_ge (nameAt callN c.kind :: (clParts c.kind).map (clWritten c)).length (k + 1) with h | h
  · rw [List.take_of_length_le (Nat.le_of_lt h)]; exact h1
  · exact Nat.le_trans (joinL_mono 32 _ _ h) h1
set_option maxRecDepth 100000 in
set_option maxHeartbeats 8000000 in
theorem refClText_any (c : Cl) (hf : c.fits) (w : World) : Calls Tryz.prog 12 #[.agg #[.int .i64 c.kind, .bool c.en.ad.v6, .int .u64 c.en.ad.hi, .int .u64 c.en.ad.lo, .int .i64 c.en.port, .bool c.nt.ad.v6, .int .u64 c.nt.ad.hi, .int .u64 c.nt.ad.lo, .int .i64 c.nt.bits, .int .i64 c.now, .int .i64 c.num, .bool c.good]] w fun e w' => e = .returned (.string (bs (clText c))) ∧ Below w.heap.size w w' := by
  rw [← growText_all]
  have HSh := Lib.hid (fun W => refShape_any c.kind W)
  have HNm := Lib.hid (fun W => refCall_any c.kind W)
  have HE := Lib.hid (fun W => refEnText_any c.en hf.a.1 W)
  have HNt := Lib.hid (fun W => refNtText_any c.nt hf.a.2 W)
  have HAd := Lib.hid (fun W => refAdText_any c.en.ad hf.a.1 W)
  have HD3 := Lib.hid (fun W => refText_any c.now hf.now0 hf.now1 W)
  have HD4 := Lib.hid (fun W => refText_any c.num hf.num0 hf.num1 W)
  have HOr := Lib.hid (fun l W => refOr33_any l W)
  have HG0 := Lib.hid (growText_zero c)
  have HGS := Lib.hid (fun k p h => growText_succ c (k := k) (p := p) h)
  have HGL := Lib.hid (fun k => growText_len hf k)
  unfold shapeL at HSh
  have hL4 : (clParts c.kind).length ≤ 4 := by
    unfold clParts
    repeat' split
    all_goals decide
  have H5 := Lib.hid (parts_le5 c.kind)
  have HGT := Lib.hid (fun k p h hk => shape_get (L := clParts c.kind) (k := k) (p := p) h hk)
  have HSZ : Hid ((bs ((clParts c.kind).map letterOf)).size = (clParts c.kind).length) := by show _ = _; rw [bs_size, List.length_map]
  have HWR : Hid (∀ p, clWritten c p = match p with | 0 => enText c.en | 1 => orL (ntText c.nt) | 2 => orL (adText c.en.ad) | 3 => decText c.now | 4 => decText c.num | _ => if c.good = true then goodL else badL) := fun _ => rfl
  clear hf
  generalize bs ((clParts c.kind).map letterOf) = s at *
  generalize clParts c.kind = L at *
  rw [← HG0.out] at HNm
  generalize growText c = G at *
  have HBk : Hid (BlockIs (w.alloc (.cells #[.int .i64 c.kind, .bool c.en.ad.v6, .int .u64 c.en.ad.hi, .int .u64 c.en.ad.lo, .int .i64 c.en.port, .bool c.nt.ad.v6, .int .u64 c.nt.ad.hi, .int .u64 c.nt.ad.lo, .int .i64 c.nt.bits, .int .i64 c.now, .int .i64 c.num, .bool c.good] 30)) w.heap.size [.int .i64 c.kind, .bool c.en.ad.v6, .int .u64 c.en.ad.hi, .int .u64 c.en.ad.lo, .int .i64 c.en.port, .bool c.nt.ad.v6, .int .u64 c.nt.ad.hi, .int .u64 c.nt.ad.lo, .int .i64 c.nt.bits, .int .i64 c.now, .int .i64 c.num, .bool c.good] 30) := BlockIs.new w [.int .i64 c.kind, .bool c.en.ad.v6, .int .u64 c.en.ad.hi, .int .u64 c.en.ad.lo, .int .i64 c.en.port, .bool c.nt.ad.v6, .int .u64 c.nt.ad.hi, .int .u64 c.nt.ad.lo, .int .i64 c.nt.bits, .int .i64 c.now, .int .i64 c.num, .bool c.good] _
  have HB0 : Hid (Below w.heap.size w (w.alloc (.cells #[.int .i64 c.kind, .bool c.en.ad.v6, .int .u64 c.en.ad.hi, .int .u64 c.en.ad.lo, .int .i64 c.en.port, .bool c.nt.ad.v6, .int .u64 c.nt.ad.hi, .int .u64 c.nt.ad.lo, .int .i64 c.nt.bits, .int .i64 c.now, .int .i64 c.num, .bool c.good] 30))) := (Below.refl _ _).alloc (Nat.le_refl _) _
  go_enter Tryz.func12, Tryz.ntmps12
  go_upto_region 4 with (first
    | (go_at_call 31; (with_reducible refine (HNm.out _).mono ?_); rintro e w0 ⟨rfl, rfl⟩)
    | (go_at_call 19; (with_reducible refine (HSh.out _).mono ?_); rintro e w1 ⟨rfl, b1⟩))
  have HB1 := Lib.hid (below2 HB0.out b1); have HP1 := Lib.hid (HBk.out.below b1)
  clear b1 HBk HB0 HSh HNm HG0
  go_loopw [3, 5] (fun t' i' wr => ∃ k : Nat, k ≤ L.length ∧ i' = .int .i64 k ∧ t' = .string (bs (G k)) ∧ Hid (Below w.heap.size w wr) ∧ Hid (BlockIs wr w.heap.size [.int .i64 c.kind, .bool c.en.ad.v6, .int .u64 c.en.ad.hi, .int .u64 c.en.ad.lo, .int .i64 c.en.port, .bool c.nt.ad.v6, .int .u64 c.nt.ad.hi, .int .u64 c.nt.ad.lo, .int .i64 c.nt.bits, .int .i64 c.now, .int .i64 c.num, .bool c.good] 30)) (fun _ i' _ => L.length - (intOf i').toNat)
  case atStart => exact ⟨0, Nat.zero_le _, rfl, rfl, HB1.out, HP1.out⟩
  case round =>
    clear HB1 HP1
    obtain ⟨k, hk, rfl, rfl, HB, HP⟩ := hrel
    by_cases hlt : k < L.length
    · obtain ⟨p, hp⟩ : ∃ p, L[k]? = some p := ⟨_, List.getElem?_eq_getElem hlt⟩
      have hkl : k < s.size := by rw [HSZ.out]; exact hlt
      have hsk := HGT.out k p hp hkl
      have hBr := HP.out
      have c0 := hBr.cell (i := 0) rfl
      have c1 := hBr.cell (i := 1) rfl
      have c2 := hBr.cell (i := 2) rfl
      have c3 := hBr.cell (i := 3) rfl
      have c4 := hBr.cell (i := 4) rfl
      have c5 := hBr.cell (i := 5) rfl
      have c6 := hBr.cell (i := 6) rfl
      have c7 := hBr.cell (i := 7) rfl
      have c8 := hBr.cell (i := 8) rfl
      have c9 := hBr.cell (i := 9) rfl
      have c10 := hBr.cell (i := 10) rfl
      have c11 := hBr.cell (i := 11) rfl
      have cf := hBr.frozen
      have cl := hBr.lt
      have hp5 := H5.out p (List.mem_of_getElem? hp)
      have q1 : (k : Int) < (s.size : Int) := by omega
      have q2 : (0 : Int) ≤ (k : Int) := by omega
      have hg := HGS.out k p hp
      have hl1 := HGL.out k
      have hl2 := HGL.out (k + 1)
      have hwr := HWR.out p
      rw [hg, List.length_append, List.length_cons] at hl2
      generalize G k = acc at *
      obtain ⟨acc2, hac⟩ : ∃ a, a = G (k + 1) := ⟨_, rfl⟩
      rw [← hac] at hg
      have HAC := Lib.hid hac
      clear hac
      clear hp hBr
      have s1 : ¬ 9223372036854775807 < (bs acc).size + 1 := by rw [bs_size]; omega
      have s2 : ∀ x : List UInt8, x = clWritten c p → ¬ 9223372036854775807 < (bs acc ++ ⟨#[32]⟩).size + (bs x).size := fun x hx => by
        subst hx; rw [ByteArray.size_append, bs_size, bs_size]; have : (⟨#[32]⟩ : ByteArray).size = 1 := rfl; omega
      have s4 : ∀ x : List UInt8, x = clWritten c p → ¬ 9223372036854775807 < (bs acc).size + 1 + (bs x).size := fun x hx => by
        subst hx; rw [bs_size, bs_size]; omega
      have HCAT : Hid (∀ x : List UInt8, x = clWritten c p → bs acc ++ ⟨#[32]⟩ ++ bs x = bs acc2) := fun x hx => by
        subst hx; rw [hg, show (⟨#[32]⟩ : ByteArray) = bs [32] from rfl, bs_append, bs_append]; simp
      clear hg hl1 hl2
      rcases (by omega : p = 0 ∨ p = 1 ∨ p = 2 ∨ p = 3 ∨ p = 4 ∨ p = 5) with rfl | rfl | rfl | rfl | rfl | rfl
      · simp only at hwr
        have HKL := Lib.hid hlt
        have e101 : ((s[k].toNat : Int) == 101) = true := by rw [hsk]; decide
        clear hsk hlt
        have HT := Lib.hid HE.out
        have s3 := s2 (enText c.en) hwr.symm
        have s5 := s4 (enText c.en) hwr.symm
        have HC2 := Lib.hid (HCAT.out (enText c.en) hwr.symm)
        clear s2 s4 hwr
        generalize enText c.en = x at *
        go_wp2_with (go_at_call 32; (with_reducible refine (HT.out _).mono ?_); rintro e w3 ⟨rfl, b3⟩)
        go_roundw
        case rel => exact ⟨k + 1, by have := HKL.out; omega, by go_num, by rw [← HAC.out, ← HC2.out], below2 HB.out b3, HP.out.below b3⟩
        case measure => have := HKL.out; simp [intOf]; omega
      · simp only at hwr
        have HKL := Lib.hid hlt
        have e101 : ((s[k].toNat : Int) == 101) = false := by rw [hsk]; decide
        have e110 : ((s[k].toNat : Int) == 110) = true := by rw [hsk]; decide
        clear hsk hlt
        have HT := Lib.hid HNt.out
        have HO1 := Lib.hid (fun W => HOr.out (ntText c.nt) W)
        have s3 := s2 (orL (ntText c.nt)) hwr.symm
        have s5 := s4 (orL (ntText c.nt)) hwr.symm
        have HC2 := Lib.hid (HCAT.out (orL (ntText c.nt)) hwr.symm)
        clear s2 s4 hwr
        generalize orL (ntText c.nt) = x2 at *
        generalize ntText c.nt = x at *
        go_wp2_with (first
          | (go_at_call 34; (with_reducible refine (HT.out _).mono ?_); rintro e w3 ⟨rfl, b3⟩)
          | (go_at_call 33; (with_reducible refine (HO1.out _).mono ?_); rintro e w4 ⟨rfl, rfl⟩))
        go_roundw
        case rel => exact ⟨k + 1, by have := HKL.out; omega, by go_num, by rw [← HAC.out, ← HC2.out], below2 HB.out b3, HP.out.below b3⟩
        case measure => have := HKL.out; simp [intOf]; omega
      · simp only at hwr
        have HKL := Lib.hid hlt
        have e101 : ((s[k].toNat : Int) == 101) = false := by rw [hsk]; decide
        have e110 : ((s[k].toNat : Int) == 110) = false := by rw [hsk]; decide
        have e97 : ((s[k].toNat : Int) == 97) = true := by rw [hsk]; decide
        clear hsk hlt
        have HT := Lib.hid HAd.out
        have HO1 := Lib.hid (fun W => HOr.out (adText c.en.ad) W)
        have s3 := s2 (orL (adText c.en.ad)) hwr.symm
        have s5 := s4 (orL (adText c.en.ad)) hwr.symm
        have HC2 := Lib.hid (HCAT.out (orL (adText c.en.ad)) hwr.symm)
        clear s2 s4 hwr
        generalize orL (adText c.en.ad) = x2 at *
        generalize adText c.en.ad = x at *
        go_wp2_with (first
          | (go_at_call 35; (with_reducible refine (HT.out _).mono ?_); rintro e w3 ⟨rfl, b3⟩)
          | (go_at_call 33; (with_reducible refine (HO1.out _).mono ?_); rintro e w4 ⟨rfl, rfl⟩))
        go_roundw
        case rel => exact ⟨k + 1, by have := HKL.out; omega, by go_num, by rw [← HAC.out, ← HC2.out], below2 HB.out b3, HP.out.below b3⟩
        case measure => have := HKL.out; simp [intOf]; omega
      · simp only at hwr
        have HKL := Lib.hid hlt
        have e101 : ((s[k].toNat : Int) == 101) = false := by rw [hsk]; decide
        have e110 : ((s[k].toNat : Int) == 110) = false := by rw [hsk]; decide
        have e97 : ((s[k].toNat : Int) == 97) = false := by rw [hsk]; decide
        have e116 : ((s[k].toNat : Int) == 116) = true := by rw [hsk]; decide
        clear hsk hlt
        have HT := Lib.hid HD3.out
        have s3 := s2 (decText c.now) hwr.symm
        have s5 := s4 (decText c.now) hwr.symm
        have HC2 := Lib.hid (HCAT.out (decText c.now) hwr.symm)
        clear s2 s4 hwr
        generalize decText c.now = x at *
        go_wp2_with (go_at_call 36; (with_reducible refine (HT.out _).mono ?_); rintro e w3 ⟨rfl, b3⟩)
        go_roundw
        case rel => exact ⟨k + 1, by have := HKL.out; omega, by go_num, by rw [← HAC.out, ← HC2.out], below2 HB.out b3, HP.out.below b3⟩
        case measure => have := HKL.out; simp [intOf]; omega
      · simp only at hwr
        have HKL := Lib.hid hlt
        have e101 : ((s[k].toNat : Int) == 101) = false := by rw [hsk]; decide
        have e110 : ((s[k].toNat : Int) == 110) = false := by rw [hsk]; decide
        have e97 : ((s[k].toNat : Int) == 97) = false := by rw [hsk]; decide
        have e116 : ((s[k].toNat : Int) == 116) = false := by rw [hsk]; decide
        have e107 : ((s[k].toNat : Int) == 107) = true := by rw [hsk]; decide
        clear hsk hlt
        have HT := Lib.hid HD4.out
        have s3 := s2 (decText c.num) hwr.symm
        have s5 := s4 (decText c.num) hwr.symm
        have HC2 := Lib.hid (HCAT.out (decText c.num) hwr.symm)
        clear s2 s4 hwr
        generalize decText c.num = x at *
        go_wp2_with (go_at_call 36; (with_reducible refine (HT.out _).mono ?_); rintro e w3 ⟨rfl, b3⟩)
        go_roundw
        case rel => exact ⟨k + 1, by have := HKL.out; omega, by go_num, by rw [← HAC.out, ← HC2.out], below2 HB.out b3, HP.out.below b3⟩
        case measure => have := HKL.out; simp [intOf]; omega
      · simp only at hwr
        have HKL := Lib.hid hlt
        have e101 : ((s[k].toNat : Int) == 101) = false := by rw [hsk]; decide
        have e110 : ((s[k].toNat : Int) == 110) = false := by rw [hsk]; decide
        have e97 : ((s[k].toNat : Int) == 97) = false := by rw [hsk]; decide
        have e116 : ((s[k].toNat : Int) == 116) = false := by rw [hsk]; decide
        have e107 : ((s[k].toNat : Int) == 107) = false := by rw [hsk]; decide
        have e103 : ((s[k].toNat : Int) == 103) = true := by rw [hsk]; decide
        clear hsk hlt
        obtain ⟨gd, hgd⟩ : ∃ g, g = c.good := ⟨_, rfl⟩
        rw [← hgd] at c11 hwr
        clear hgd
        cases gd with
        | false =>
          have s3 := s2 badL hwr.symm
          have s5 := s4 badL hwr.symm
          have HC2 := Lib.hid (HCAT.out badL hwr.symm)
          clear s2 s4 hwr
          rw [show bs badL = ⟨#[98, 97, 100]⟩ from rfl] at s3 s5 HC2
          go_wp2_with fail
          go_roundw
          case rel => exact ⟨k + 1, by have := HKL.out; omega, by go_num, by rw [← HAC.out, ← HC2.out], HB.out, HP.out⟩
          case measure => have := HKL.out; simp [intOf]; omega
        | true =>
          have s3 := s2 goodL hwr.symm
          have s5 := s4 goodL hwr.symm
          have HC2 := Lib.hid (HCAT.out goodL hwr.symm)
          clear s2 s4 hwr
          rw [show bs goodL = ⟨#[103, 111, 111, 100]⟩ from rfl] at s3 s5 HC2
          go_wp2_with fail
          go_roundw
          case rel => exact ⟨k + 1, by have := HKL.out; omega, by go_num, by rw [← HAC.out, ← HC2.out], HB.out, HP.out⟩
          case measure => have := HKL.out; simp [intOf]; omega
    · obtain rfl : k = L.length := by omega
      have q1 : ¬ (L.length : Int) < (s.size : Int) := by rw [HSZ.out]; omega
      go_wp2_with fail
      go_ret
      exact ⟨rfl, HB.out⟩
end Go.Proofs.YtnohkfbapibmdaaGreat
