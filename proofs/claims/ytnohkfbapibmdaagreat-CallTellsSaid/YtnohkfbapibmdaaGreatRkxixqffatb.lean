/- Texts put together: RefCallA. No condition. -/
import Derived.Test.YtnohkfbapibmdaaGreatRmwefosdwye
import Derived.Test.YtnohkfbapibmdaaGreatRroffwkqthb
import Derived.Test.YtnohkfbapibmdaaGreatRptqhemguzp
import Derived.Test.YtnohkfbapibmdaaGreatRddevppyjxn
import Derived.Test.YtnohkfbapibmdaaGreatRrycftbcloq
import Derived.Deep.DeepCutAuto
import Derived.Deep.CutBlock
namespace Go.Proofs.YtnohkfbapibmdaaGreat
open Go.RowKit
set_option linter.unusedSimpArgs false
set_option linter.unusedVariables false

theorem shape_lit {n : Nat} (h : 1 ≤ n ∧ n ≤ 13) : ([[], [101, 116], [101], [116], [101, 103, 116, 107], [101, 107, 116], [110, 107, 116], [110], [97, 116], [116], [], [101, 107], [101, 116], [101, 116]] : List (List UInt8))[n]? = some (shapeL (n : Int)) := by
  have : n = 1 ∨ n = 2 ∨ n = 3 ∨ n = 4 ∨ n = 5 ∨ n = 6 ∨ n = 7 ∨ n = 8 ∨ n = 9 ∨ n = 10 ∨ n = 11 ∨ n = 12 ∨ n = 13 := by omega
  rcases this with rfl | rfl | rfl | rfl | rfl | rfl | rfl | rfl | rfl | rfl | rfl | rfl | rfl <;> decide +kernel
set_option maxRecDepth 100000 in
theorem refShape_any (k : Int) (w : World) : Calls Tryz.prog 19 #[.int .i64 k] w fun e w' => e = .returned (.string (bs (shapeL k))) ∧ Below w.heap.size w w' := by
  by_cases hk : 1 ≤ k ∧ k ≤ 13
  · obtain ⟨n, rfl⟩ : ∃ n : Nat, k = (n : Int) := ⟨k.toNat, by omega⟩
    have hl := shape_lit (n := n) (by omega)
    have hc := (BlockIs.new w (([[], [101, 116], [101], [116], [101, 103, 116, 107], [101, 107, 116], [110, 107, 116], [110], [97, 116], [116], [], [101, 107], [101, 116], [101, 116]] : List (List UInt8)).map sv) 9).cell (i := n) (v := sv (shapeL n)) (by rw [List.getElem?_map, hl]; rfl)
    have h0 : (0 : Int) ≤ (n : Int) := by omega
    have h1 : (n : Int) < 14 := by omega
    have h2 : ¬ (n : Int) < 1 := by omega
    have h3 : ¬ (13 : Int) < (n : Int) := by omega
    unfold sv at hc
    clear hl hk
    generalize bs (shapeL (n : Int)) = s at *
    have hc' : (w.alloc (.cells #[.string ⟨#[]⟩, .string ⟨#[101, 116]⟩, .string ⟨#[101]⟩, .string ⟨#[116]⟩, .string ⟨#[101, 103, 116, 107]⟩, .string ⟨#[101, 107, 116]⟩, .string ⟨#[110, 107, 116]⟩, .string ⟨#[110]⟩, .string ⟨#[97, 116]⟩, .string ⟨#[116]⟩, .string ⟨#[]⟩, .string ⟨#[101, 107]⟩, .string ⟨#[101, 116]⟩, .string ⟨#[101, 116]⟩] 9)).cell? ⟨w.heap.size, n, none⟩ = some (.string s) := hc
    clear hc
    go_enter Tryz.func19, Tryz.ntmps19
    go_upto_region 2 with fail
    obtain ⟨W1, hW⟩ : ∃ W1, W1 = w.alloc (.cells #[.string ⟨#[]⟩, .string ⟨#[101, 116]⟩, .string ⟨#[101]⟩, .string ⟨#[116]⟩, .string ⟨#[101, 103, 116, 107]⟩, .string ⟨#[101, 107, 116]⟩, .string ⟨#[110, 107, 116]⟩, .string ⟨#[110]⟩, .string ⟨#[97, 116]⟩, .string ⟨#[116]⟩, .string ⟨#[]⟩, .string ⟨#[101, 107]⟩, .string ⟨#[101, 116]⟩, .string ⟨#[101, 116]⟩] 9) := ⟨_, rfl⟩
    rw [← hW] at hc' ⊢
    have b1 : Below w.heap.size w W1 := by subst hW; (repeat (first | with_reducible assumption | with_reducible exact Below.refl _ _ | with_reducible refine Below.setCell ?_ (by first | omega | (simp; done) | (simp; omega)) _ | with_reducible refine Below.alloc ?_ (by first | omega | (simp; done) | (simp; omega)) _ | with_reducible refine Below.drew ?_ | (with_reducible refine Below.trans ?_ (Below.mono (by with_reducible assumption) (by first | omega | (simp; done) | (simp; omega)))) | (refine Below.trans ?_ (Below.mono (by assumption) (by first | omega | (simp; done) | (simp; omega))))))
    clear hW
    go_wp2_with fail
    go_ret
    exact ⟨rfl, b1⟩
  · have hs : shapeL k = [] := by unfold shapeL; rw [parts_out hk]; rfl
    rw [hs, show bs [] = ⟨#[]⟩ from rfl]
    rcases Int.lt_or_le k 1 with h | h
    · go_enter Tryz.func19, Tryz.ntmps19
      go_wp2_with fail
      go_ret
      exact ⟨rfl, by (repeat (first | with_reducible assumption | with_reducible exact Below.refl _ _ | with_reducible refine Below.setCell ?_ (by first | omega | (simp; done) | (simp; omega)) _ | with_reducible refine Below.alloc ?_ (by first | omega | (simp; done) | (simp; omega)) _ | with_reducible refine Below.drew ?_ | (with_reducible refine Below.trans ?_ (Below.mono (by with_reducible assumption) (by first | omega | (simp; done) | (simp; omega)))) | (refine Below.trans ?_ (Below.mono (by assumption) (by first | omega | (simp; done) | (simp; omega))))))⟩
    · have h2 : ¬ k < 1 := by omega
      have h3 : 13 < k := by omega
      go_enter Tryz.func19, Tryz.ntmps19
      go_wp2_with fail
      go_ret
      exact ⟨rfl, by (repeat (first | with_reducible assumption | with_reducible exact Below.refl _ _ | with_reducible refine Below.setCell ?_ (by first | omega | (simp; done) | (simp; omega)) _ | with_reducible refine Below.alloc ?_ (by first | omega | (simp; done) | (simp; omega)) _ | with_reducible refine Below.drew ?_ | (with_reducible refine Below.trans ?_ (Below.mono (by with_reducible assumption) (by first | omega | (simp; done) | (simp; omega)))) | (refine Below.trans ?_ (Below.mono (by assumption) (by first | omega | (simp; done) | (simp; omega))))))⟩
theorem refOr33_any (l : List UInt8) (w : World) : Calls Tryz.prog 33 #[.string (bs l)] w fun e w' => e = .returned (.string (bs (orL l))) ∧ w = w' := by
  by_cases h : l = []
  · subst h
    rw [show bs (orL []) = ⟨#[45]⟩ from rfl, show bs [] = ⟨#[]⟩ from rfl]
    go_enter Tryz.func33, Tryz.ntmps33
    go_wp2_with fail
    go_ret
    exact ⟨rfl, rfl⟩
  · rw [orL_same h]
    have hne : ((bs l).toList == []) = false := by rw [bs_toL]; simpa using h
    have hn2 : ((bs l).toList).isEmpty = false := by rw [bs_toL]; simpa using h
    have hn3 : ¬ (bs l).toList = [] := by rw [bs_toL]; exact h
    generalize bs l = s at *
    go_enter Tryz.func33, Tryz.ntmps33
    go_wp2_with fail
    go_ret
    exact ⟨rfl, rfl⟩
theorem shape_get {L : List Nat} {k p : Nat} (h : L[k]? = some p) (hk : k < (bs (L.map letterOf)).size) : (bs (L.map letterOf))[k] = letterOf p := by
  have h1 := get_data (bs (L.map letterOf)) k hk
  rw [bs_data, List.getElem?_map, h] at h1
  injection h1 with h1
  exact h1.symm

set_option maxRecDepth 100000 in
set_option maxHeartbeats 8000000 in
theorem refClRight_any (c : Cl) (hf : c.fits) (w : World) : Calls Tryz.prog 8 #[.agg #[.int .i64 c.kind, .bool c.en.ad.v6, .int .u64 c.en.ad.hi, .int .u64 c.en.ad.lo, .int .i64 c.en.port, .bool c.nt.ad.v6, .int .u64 c.nt.ad.hi, .int .u64 c.nt.ad.lo, .int .i64 c.nt.bits, .int .i64 c.now, .int .i64 c.num, .bool c.good]] w fun e w' => e = .returned (.bool (clRight c)) ∧ Below w.heap.size w w' := by
  rw [right_range]
  by_cases hk : 1 ≤ c.kind ∧ c.kind ≤ 13
  · rw [decide_eq_true hk, Bool.true_and]
    have h1 : ¬ c.kind < 1 := by omega
    have h2 : ¬ 13 < c.kind := by omega
    have HSh := Lib.hid (fun W => refShape_any c.kind W)
    have HE := Lib.hid (fun W => refEnRight_any c.en hf.a.1 W)
    have HNt := Lib.hid (fun W => refNtRight_any c.nt hf.a.2 W)
    have HAd := Lib.hid (fun W => refAdRight_any c.en.ad hf.a.1 W)
    have hsp := fun h => rSpan_eq (k := c.kind) h
    unfold shapeL at HSh
    have hL4 : (clParts c.kind).length ≤ 4 := by
      unfold clParts
      repeat' split
      all_goals decide
    have H5 := Lib.hid (parts_le5 c.kind)
    have HGT := Lib.hid (fun k p h hk => shape_get (L := clParts c.kind) (k := k) (p := p) h hk)
    have hsz : (bs ((clParts c.kind).map letterOf)).size = (clParts c.kind).length := by rw [bs_size, List.length_map]
    have hr1 : ∀ p, clRight1 c p = clRight1 c p := fun _ => rfl
    have HSZ := Lib.hid hsz
    obtain ⟨fr, hfr⟩ : ∃ fr, fr = (rSpan c.kind).1 := ⟨_, rfl⟩
    obtain ⟨tt, hto⟩ : ∃ tt, tt = (rSpan c.kind).2 := ⟨_, rfl⟩
    have HS4 : Hid (4 ∈ clParts c.kind → fr = (clSpan c.kind).1 ∧ tt = (clSpan c.kind).2) := fun h => by rw [hfr, hto, hsp h]; exact ⟨rfl, rfl⟩
    have HFR := Lib.hid hfr; have HTO := Lib.hid hto
    have hR5 : Hid (∀ p, clRight1 c p = match p with | 0 => enRight c.en | 1 => ntRight c.nt | 2 => adRight c.en.ad | 3 => decide (0 ≤ c.now) && decide (c.now ≤ 1099511627776) | 4 => decide ((clSpan c.kind).1 ≤ c.num) && decide (c.num ≤ (clSpan c.kind).2) | _ => true) := fun _ => rfl
    clear hfr hto hsp hr1 hsz hf hk
    generalize bs ((clParts c.kind).map letterOf) = s at *
    generalize clParts c.kind = L at *
    have HBk : Hid (BlockIs (w.alloc (.cells #[.int .i64 c.kind, .bool c.en.ad.v6, .int .u64 c.en.ad.hi, .int .u64 c.en.ad.lo, .int .i64 c.en.port, .bool c.nt.ad.v6, .int .u64 c.nt.ad.hi, .int .u64 c.nt.ad.lo, .int .i64 c.nt.bits, .int .i64 c.now, .int .i64 c.num, .bool c.good] 30)) w.heap.size [.int .i64 c.kind, .bool c.en.ad.v6, .int .u64 c.en.ad.hi, .int .u64 c.en.ad.lo, .int .i64 c.en.port, .bool c.nt.ad.v6, .int .u64 c.nt.ad.hi, .int .u64 c.nt.ad.lo, .int .i64 c.nt.bits, .int .i64 c.now, .int .i64 c.num, .bool c.good] 30) := BlockIs.new w [.int .i64 c.kind, .bool c.en.ad.v6, .int .u64 c.en.ad.hi, .int .u64 c.en.ad.lo, .int .i64 c.en.port, .bool c.nt.ad.v6, .int .u64 c.nt.ad.hi, .int .u64 c.nt.ad.lo, .int .i64 c.nt.bits, .int .i64 c.now, .int .i64 c.num, .bool c.good] _
    have HB0 : Hid (Below w.heap.size w (w.alloc (.cells #[.int .i64 c.kind, .bool c.en.ad.v6, .int .u64 c.en.ad.hi, .int .u64 c.en.ad.lo, .int .i64 c.en.port, .bool c.nt.ad.v6, .int .u64 c.nt.ad.hi, .int .u64 c.nt.ad.lo, .int .i64 c.nt.bits, .int .i64 c.now, .int .i64 c.num, .bool c.good] 30))) := (Below.refl _ _).alloc (Nat.le_refl _) _
    go_enter Tryz.func8, Tryz.ntmps8
    go_upto_block 0 with fail
    go_cut [3, 4] (fun a b wx => a = .int .i64 fr ∧ b = .int .i64 tt ∧ wx = w.alloc (.cells #[.int .i64 c.kind, .bool c.en.ad.v6, .int .u64 c.en.ad.hi, .int .u64 c.en.ad.lo, .int .i64 c.en.port, .bool c.nt.ad.v6, .int .u64 c.nt.ad.hi, .int .u64 c.nt.ad.lo, .int .i64 c.nt.bits, .int .i64 c.now, .int .i64 c.num, .bool c.good] 30))
    case first =>
      go_wp2_with fail
      all_goals (go_meet; refine ⟨?_, ?_, rfl⟩; all_goals (first | (rw [HFR.out]; unfold rSpan; simp_all; done) | (rw [HTO.out]; unfold rSpan; simp_all; done)))
    case rest =>
    obtain ⟨rfl, rfl, rfl⟩ := hcut
    go_at_K
    go_upto_region 16 with (go_at_call 19; (with_reducible refine (HSh.out _).mono ?_); rintro e w1 ⟨rfl, b1⟩)
    have HB1 := Lib.hid (below2 HB0.out b1); have HP1 := Lib.hid (HBk.out.below b1)
    clear b1 HBk HB0 HSh HFR HTO
    go_loopw [6] (fun i' wr => ∃ k : Nat, k ≤ L.length ∧ i' = .int .i64 k ∧ Hid (Below w.heap.size w wr) ∧ Hid (BlockIs wr w.heap.size [.int .i64 c.kind, .bool c.en.ad.v6, .int .u64 c.en.ad.hi, .int .u64 c.en.ad.lo, .int .i64 c.en.port, .bool c.nt.ad.v6, .int .u64 c.nt.ad.hi, .int .u64 c.nt.ad.lo, .int .i64 c.nt.bits, .int .i64 c.now, .int .i64 c.num, .bool c.good] 30) ∧ Hid (∀ j q, j < k → L[j]? = some q → clRight1 c q = true)) (fun i' _ => L.length - (intOf i').toNat)
    case atStart => exact ⟨0, Nat.zero_le _, rfl, HB1.out, HP1.out, fun j q hj => absurd hj (Nat.not_lt_zero _)⟩
    case round =>
      clear HB1 HP1
      obtain ⟨k, hk, rfl, HB, HP, HA⟩ := hrel
      by_cases hlt : k < L.length
      · obtain ⟨p, hp⟩ : ∃ p, L[k]? = some p := ⟨_, List.getElem?_eq_getElem hlt⟩
        have hkl : k < s.size := by rw [HSZ.out]; exact hlt
        have hsk := HGT.out k p hp hkl
        have hBr := HP.out
        have c0 := hBr.cell (i := 0) rfl
        have c1 := hBr.cell (i := 1) rfl
        have c2 := hBr.cell (i := 2) rfl
        have c3 := hBr.cell (i := 3) rfl
        have c4 := hBr.cell (i := 4) rfl
        have c5 := hBr.cell (i := 5) rfl
        have c6 := hBr.cell (i := 6) rfl
        have c7 := hBr.cell (i := 7) rfl
        have c8 := hBr.cell (i := 8) rfl
        have c9 := hBr.cell (i := 9) rfl
        have c10 := hBr.cell (i := 10) rfl
        have c11 := hBr.cell (i := 11) rfl
        have cf := hBr.frozen
        have cl := hBr.lt
        have hp5 := H5.out p (List.mem_of_getElem? hp)
        have HX := Lib.hid hp
        have q1 : (k : Int) < (s.size : Int) := by omega
        have q2 : (0 : Int) ≤ (k : Int) := by omega
        have hr := hR5.out p
        have HPM := Lib.hid (List.mem_of_getElem? hp)
        clear hp hBr
        rcases (by omega : p = 0 ∨ p = 1 ∨ p = 2 ∨ p = 3 ∨ p = 4 ∨ p = 5) with rfl | rfl | rfl | rfl | rfl | rfl
        · simp only at hr
          have HKL := Lib.hid hlt
          have e101 : ((s[k].toNat : Int) == 101) = true := by rw [hsk]; decide
          clear hsk hlt
          have HH := Lib.hid HE.out
          generalize enRight c.en = y at hr HH
          cases y with
          | false =>
            have HRR := Lib.hid hr; clear hr
            go_wp2_with (go_at_call 26; (with_reducible refine (HH.out _).mono ?_); rintro e w3 ⟨rfl, b3⟩)
            go_ret
            exact ⟨ret_bool (by rw [all_no HX.out HRR.out]), below2 HB.out b3⟩
          | true =>
            have HRR := Lib.hid hr; clear hr
            go_wp2_with (go_at_call 26; (with_reducible refine (HH.out _).mono ?_); rintro e w3 ⟨rfl, b3⟩)
            go_roundw
            case rel =>
              exact ⟨k + 1, by have := HKL.out; omega, by go_num, below2 HB.out b3, HP.out.below b3, fun j q hj hq => by
                rcases Nat.lt_succ_iff_lt_or_eq.1 hj with h | rfl
                · exact HA.out j q h hq
                · rw [HX.out] at hq; injection hq with hq; subst hq; exact HRR.out⟩
            case measure => have := HKL.out; simp [intOf]; omega
        · simp only at hr
          have HKL := Lib.hid hlt
          have e101 : ((s[k].toNat : Int) == 101) = false := by rw [hsk]; decide
          have e110 : ((s[k].toNat : Int) == 110) = true := by rw [hsk]; decide
          clear hsk hlt
          have HH := Lib.hid HNt.out
          generalize ntRight c.nt = y at hr HH
          cases y with
          | false =>
            have HRR := Lib.hid hr; clear hr
            go_wp2_with (go_at_call 27; (with_reducible refine (HH.out _).mono ?_); rintro e w3 ⟨rfl, b3⟩)
            go_ret
            exact ⟨ret_bool (by rw [all_no HX.out HRR.out]), below2 HB.out b3⟩
          | true =>
            have HRR := Lib.hid hr; clear hr
            go_wp2_with (go_at_call 27; (with_reducible refine (HH.out _).mono ?_); rintro e w3 ⟨rfl, b3⟩)
            go_roundw
            case rel =>
              exact ⟨k + 1, by have := HKL.out; omega, by go_num, below2 HB.out b3, HP.out.below b3, fun j q hj hq => by
                rcases Nat.lt_succ_iff_lt_or_eq.1 hj with h | rfl
                · exact HA.out j q h hq
                · rw [HX.out] at hq; injection hq with hq; subst hq; exact HRR.out⟩
            case measure => have := HKL.out; simp [intOf]; omega
        · simp only at hr
          have HKL := Lib.hid hlt
          have e101 : ((s[k].toNat : Int) == 101) = false := by rw [hsk]; decide
          have e110 : ((s[k].toNat : Int) == 110) = false := by rw [hsk]; decide
          have e97 : ((s[k].toNat : Int) == 97) = true := by rw [hsk]; decide
          clear hsk hlt
          have HH := Lib.hid HAd.out
          generalize adRight c.en.ad = y at hr HH
          cases y with
          | false =>
            have HRR := Lib.hid hr; clear hr
            go_wp2_with (go_at_call 28; (with_reducible refine (HH.out _).mono ?_); rintro e w3 ⟨rfl, b3⟩)
            go_ret
            exact ⟨ret_bool (by rw [all_no HX.out HRR.out]), below2 HB.out b3⟩
          | true =>
            have HRR := Lib.hid hr; clear hr
            go_wp2_with (go_at_call 28; (with_reducible refine (HH.out _).mono ?_); rintro e w3 ⟨rfl, b3⟩)
            go_roundw
            case rel =>
              exact ⟨k + 1, by have := HKL.out; omega, by go_num, below2 HB.out b3, HP.out.below b3, fun j q hj hq => by
                rcases Nat.lt_succ_iff_lt_or_eq.1 hj with h | rfl
                · exact HA.out j q h hq
                · rw [HX.out] at hq; injection hq with hq; subst hq; exact HRR.out⟩
            case measure => have := HKL.out; simp [intOf]; omega
        · simp only at hr
          have HKL := Lib.hid hlt
          have e101 : ((s[k].toNat : Int) == 101) = false := by rw [hsk]; decide
          have e110 : ((s[k].toNat : Int) == 110) = false := by rw [hsk]; decide
          have e97 : ((s[k].toNat : Int) == 97) = false := by rw [hsk]; decide
          have e116 : ((s[k].toNat : Int) == 116) = true := by rw [hsk]; decide
          clear hsk hlt
          by_cases g1 : c.now < 0
          · have HRR : Hid (clRight1 c 3 = false) := by show _ = _; rw [hr, decide_eq_false (by omega)]; rfl
            clear hr
            go_wp2_with fail
            go_ret
            exact ⟨ret_bool (by rw [all_no HX.out HRR.out]), HB.out⟩
          · by_cases g2 : 1099511627776 < c.now
            · have HRR : Hid (clRight1 c 3 = false) := by show _ = _; rw [hr, decide_eq_true (by omega), decide_eq_false (by omega)]; rfl
              clear hr
              go_wp2_with fail
              go_ret
              exact ⟨ret_bool (by rw [all_no HX.out HRR.out]), HB.out⟩
            · have HRR : Hid (clRight1 c 3 = true) := by show _ = _; rw [hr, decide_eq_true (by omega), decide_eq_true (by omega)]; rfl
              clear hr
              go_wp2_with fail
              go_roundw
              case rel =>
                exact ⟨k + 1, by have := HKL.out; omega, by go_num, HB.out, HP.out, fun j q hj hq => by
                  rcases Nat.lt_succ_iff_lt_or_eq.1 hj with h | rfl
                  · exact HA.out j q h hq
                  · rw [HX.out] at hq; injection hq with hq; subst hq; exact HRR.out⟩
              case measure => have := HKL.out; simp [intOf]; omega
        · simp only at hr
          have HKL := Lib.hid hlt
          have e101 : ((s[k].toNat : Int) == 101) = false := by rw [hsk]; decide
          have e110 : ((s[k].toNat : Int) == 110) = false := by rw [hsk]; decide
          have e97 : ((s[k].toNat : Int) == 97) = false := by rw [hsk]; decide
          have e116 : ((s[k].toNat : Int) == 116) = false := by rw [hsk]; decide
          have e107 : ((s[k].toNat : Int) == 107) = true := by rw [hsk]; decide
          clear hsk hlt
          obtain ⟨rfl, rfl⟩ := HS4.out HPM.out
          generalize (clSpan c.kind).1 = fr at *
          generalize (clSpan c.kind).2 = tt at *
          by_cases g1 : c.num < fr
          · have HRR : Hid (clRight1 c 4 = false) := by show _ = _; rw [hr, decide_eq_false (by omega)]; rfl
            clear hr
            go_wp2_with fail
            go_ret
            exact ⟨ret_bool (by rw [all_no HX.out HRR.out]), HB.out⟩
          · by_cases g2 : tt < c.num
            · have HRR : Hid (clRight1 c 4 = false) := by show _ = _; rw [hr, decide_eq_true (by omega), decide_eq_false (by omega)]; rfl
              clear hr
              go_wp2_with fail
              go_ret
              exact ⟨ret_bool (by rw [all_no HX.out HRR.out]), HB.out⟩
            · have HRR : Hid (clRight1 c 4 = true) := by show _ = _; rw [hr, decide_eq_true (by omega), decide_eq_true (by omega)]; rfl
              clear hr
              go_wp2_with fail
              go_roundw
              case rel =>
                exact ⟨k + 1, by have := HKL.out; omega, by go_num, HB.out, HP.out, fun j q hj hq => by
                  rcases Nat.lt_succ_iff_lt_or_eq.1 hj with h | rfl
                  · exact HA.out j q h hq
                  · rw [HX.out] at hq; injection hq with hq; subst hq; exact HRR.out⟩
              case measure => have := HKL.out; simp [intOf]; omega
        · simp only at hr
          have HKL := Lib.hid hlt
          have e101 : ((s[k].toNat : Int) == 101) = false := by rw [hsk]; decide
          have e110 : ((s[k].toNat : Int) == 110) = false := by rw [hsk]; decide
          have e97 : ((s[k].toNat : Int) == 97) = false := by rw [hsk]; decide
          have e116 : ((s[k].toNat : Int) == 116) = false := by rw [hsk]; decide
          have e107 : ((s[k].toNat : Int) == 107) = false := by rw [hsk]; decide
          have e103 : ((s[k].toNat : Int) == 103) = true := by rw [hsk]; decide
          clear hsk hlt
          have HRR := Lib.hid hr; clear hr
          go_wp2_with fail
          go_roundw
          case rel =>
            exact ⟨k + 1, by have := HKL.out; omega, by go_num, HB.out, HP.out, fun j q hj hq => by
              rcases Nat.lt_succ_iff_lt_or_eq.1 hj with h | rfl
              · exact HA.out j q h hq
              · rw [HX.out] at hq; injection hq with hq; subst hq; exact HRR.out⟩
          case measure => have := HKL.out; simp [intOf]; omega
      · obtain rfl : k = L.length := by omega
        have q1 : ¬ (L.length : Int) < (s.size : Int) := by rw [HSZ.out]; omega
        go_wp2_with fail
        go_ret
        exact ⟨ret_bool (by rw [all_of HA.out]), HB.out⟩
  · rw [decide_eq_false hk, Bool.false_and]
    clear hf
    rcases Int.lt_or_le c.kind 1 with h | h
    · go_enter Tryz.func8, Tryz.ntmps8
      go_wp2_with fail
      go_ret
      exact ⟨rfl, by (repeat (first | with_reducible assumption | with_reducible exact Below.refl _ _ | with_reducible refine Below.setCell ?_ (by first | omega | (simp; done) | (simp; omega)) _ | with_reducible refine Below.alloc ?_ (by first | omega | (simp; done) | (simp; omega)) _ | with_reducible refine Below.drew ?_ | (with_reducible refine Below.trans ?_ (Below.mono (by with_reducible assumption) (by first | omega | (simp; done) | (simp; omega)))) | (refine Below.trans ?_ (Below.mono (by assumption) (by first | omega | (simp; done) | (simp; omega))))))⟩
    · have h2 : ¬ c.kind < 1 := by omega
      have h3 : 13 < c.kind := by omega
      go_enter Tryz.func8, Tryz.ntmps8
      go_wp2_with fail
      go_ret
      exact ⟨rfl, by (repeat (first | with_reducible assumption | with_reducible exact Below.refl _ _ | with_reducible refine Below.setCell ?_ (by first | omega | (simp; done) | (simp; omega)) _ | with_reducible refine Below.alloc ?_ (by first | omega | (simp; done) | (simp; omega)) _ | with_reducible refine Below.drew ?_ | (with_reducible refine Below.trans ?_ (Below.mono (by with_reducible assumption) (by first | omega | (simp; done) | (simp; omega)))) | (refine Below.trans ?_ (Below.mono (by assumption) (by first | omega | (simp; done) | (simp; omega))))))⟩
end Go.Proofs.YtnohkfbapibmdaaGreat
