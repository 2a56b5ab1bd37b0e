/- Texts put together: BanR. No condition. -/
import Derived.Test.YtdmobgdgeiiicaaGreatRfjiotjisdn
namespace Go.Proofs.YtdmobgdgeiiicaaGreat
open Go.RowKit
set_option linter.unusedSimpArgs false
set_option linter.unusedVariables false

theorem dec_nil (m : Int) : decParse [] m = (0, false) := by unfold decParse; simp
set_option maxRecDepth 100000 in
set_option maxHeartbeats 8000000 in
theorem refBaParse_any (s : ByteArray) (w : World) (hs : s.size ≤ 4000000000) : Calls Tryz.prog 13 #[.string s] w (GivesBa w (baParse s.data.toList)) := by
  obtain ⟨l, hl⟩ : ∃ l, s.data.toList = l := ⟨_, rfl⟩
  have hlen : l.length = s.size := by rw [← hl]; exact len_data s
  obtain ⟨k, hk⟩ : ∃ k, atB 32 l = k := ⟨_, rfl⟩
  have hle : k ≤ s.size := by rw [← hk, ← hlen]; exact atB_le 32 l
  have e1 : s.extract 0 k = bs (l.take k) := by rw [← hl]; exact extract_take s k
  have e2 : s.extract (k + 7) s.size = bs (l.drop (k + 7)) := by rw [← hl]; exact extract_drop s (k + 7)
  have hstep : ∀ m (h : m < s.size), m + atB 32 (l.drop m) = if s[m] = 32 then m else m + 1 + atB 32 (l.drop (m + 1)) := by rw [← hl]; exact drop_atB 32 s
  have hend : atB 32 (l.drop s.size) = 0 := by rw [← hlen, List.drop_length]; rfl
  have hshort : s.size < k + 7 → decParse (l.drop (k + 7)) 1099511627776 = (0, false) := fun h => by rw [List.drop_eq_nil_of_le (by omega), dec_nil]
  have htoL : s.toList = l := by rw [toL, hl]
  unfold GivesBa baParse
  rw [hl, hk]
  have hN := fun w => refNtParse_any (bs (l.take k)) w (by rw [bs_size, List.length_take]; omega)
  have hD := fun w => refParse_any (bs (l.drop (k + 7))) 1099511627776 w (by rw [bs_size, List.length_drop]; omega) (by omega) (by omega)
  rw [bs_data] at hN hD
  unfold GivesNt at hN
  have hf := (ntParse_ok (l.take k)).1
  generalize ntParse (l.take k) = p at *
  generalize decParse (l.drop (k + 7)) 1099511627776 = q at *
  generalize l.take k = la at *
  generalize l.drop (k + 7) = lb at *
  obtain ⟨n, ok⟩ := p
  obtain ⟨t, is⟩ := q
  simp only at hN hD hf
  have hT := fun w => refBaText_any ⟨n, t⟩ hf w
  have hbad : ok = false ∨ is = false → baCand (n, ok) (t, is) l = zeroB := fun h => baCand_bad (by rintro ⟨a, b, _⟩; simp only at a b; rcases h with h | h <;> simp_all)
  have hbad2 : baText ⟨n, t⟩ ≠ l → baCand (n, ok) (t, is) l = zeroB := fun h => baCand_bad (by rintro ⟨_, _, c⟩; exact h c)
  have hgood : ok = true → is = true → baText ⟨n, t⟩ = l → baCand (n, ok) (t, is) l = (⟨n, t⟩, true) := fun a b c => baCand_hit ⟨a, b, c⟩
  generalize baCand (n, ok) (t, is) l = r at *
  have htx : ((bs (baText ⟨n, t⟩)).toList == s.toList) = decide (baText ⟨n, t⟩ = l) := by rw [bs_toL, htoL]; by_cases h : baText ⟨n, t⟩ = l <;> simp [h]
  generalize baText ⟨n, t⟩ = tx at *
  unfold zeroB at hbad hbad2
  have HN := Lib.hid hN; have HD := Lib.hid hD; have HT := Lib.hid hT; have HST := Lib.hid hstep; have HEND := Lib.hid hend; have HSH := Lib.hid hshort; have HB1 := Lib.hid hbad; have HB2 := Lib.hid hbad2; have HG := Lib.hid hgood; have HTX := Lib.hid htx; have HK := Lib.hid hk
  clear hN hD hT hstep hend hshort hbad hbad2 hgood htx htoL hl hlen hk
  go_enter Tryz.func13, Tryz.ntmps13
  go_wp2_with fail
  go_loop [4] (fun x => ∃ m : Nat, x = .int .i64 (m : Int) ∧ m ≤ s.size ∧ Hid (m + atB 32 (l.drop m) = k)) (fun x => (s.size - (intOf x)).toNat)
  case atStart => exact ⟨0, rfl, Nat.zero_le _, by unfold Hid; rw [List.drop_zero, Nat.zero_add]; exact HK.out⟩
  case round =>
    obtain ⟨m, rfl, hm, HI⟩ := hrel
    by_cases hlt : m < s.size
    · have hst := HST.out m hlt
      rw [HI.out] at hst
      by_cases c1 : s[m] = 32
      · have q1 : ((s[m].toNat : Int) != 32) = false := by rw [c1]; rfl
        rw [if_pos c1] at hst
        obtain rfl : k = m := hst
        clear c1 HI HST
        cases ok with
        | false =>
          obtain rfl : r = _ := HB1.out (Or.inl rfl)
          go_upto_region 7 with (first | (go_at_call 29; (with_reducible refine (HN.out _).mono ?_); rintro e w2 ⟨rfl, b2⟩; obtain ⟨c2, f2⟩ := bcell b2; have z2 := b2.size; (try simp at z2); have l2a : w.heap.size < w2.heap.size := (by omega); have n2a := Nat.ne_of_lt l2a; have d2a := fun o => c2 (w.heap.size) o (by first | omega | (simp; done) | (simp; omega)); have q2a := fun o => f2 (w.heap.size) o (by first | omega | (simp; done) | (simp; omega)); clear c2 f2) | (go_at_call 30; (with_reducible refine (HD.out _).mono ?_); rintro e w3 ⟨rfl, b3⟩; obtain ⟨c3, f3⟩ := bcell b3; have z3 := b3.size; (try simp at z3); have l3a : w.heap.size < w3.heap.size := (by omega); have n3a := Nat.ne_of_lt l3a; have d3a := fun o => c3 (w.heap.size) o (by first | omega | (simp; done) | (simp; omega)); have q3a := fun o => f3 (w.heap.size) o (by first | omega | (simp; done) | (simp; omega)); have l3b : w2.heap.size < w3.heap.size := (by omega); have n3b := Nat.ne_of_lt l3b; have d3b := fun o => c3 (w2.heap.size) o (by first | omega | (simp; done) | (simp; omega)); clear c3 f3) | (go_at_call 21; (with_reducible refine (HT.out _).mono ?_); rintro e w4 ⟨rfl, b4⟩; obtain ⟨c4, f4⟩ := bcell b4; have z4 := b4.size; (try simp at z4); have l4a : w.heap.size < w4.heap.size := (by omega); have n4a := Nat.ne_of_lt l4a; have d4a := fun o => c4 (w.heap.size) o (by first | omega | (simp; done) | (simp; omega)); have q4a := fun o => f4 (w.heap.size) o (by first | omega | (simp; done) | (simp; omega)); have d4b := fun o => c4 (w3.heap.size) o (by first | omega | (simp; done) | (simp; omega)); clear c4 f4))
          go_name_world WWx hWWx
          have hB : BlockIs WWx w.heap.size [.bool false, .int .u64 0, .int .u64 0, .int .i64 0, .int .i64 0] 38 := by subst hWWx; exact ((BlockIs.new w [.bool false, .int .u64 0, .int .u64 0, .int .i64 0, .int .i64 0] 38).below b2).alloc _
          have bwx : Below w.heap.size w WWx := by subst hWWx; (repeat (first | with_reducible assumption | with_reducible exact Below.refl _ _ | with_reducible refine Below.setCell ?_ (by first | omega | (simp; done) | (simp; omega)) _ | with_reducible refine Below.alloc ?_ (by first | omega | (simp; done) | (simp; omega)) _ | with_reducible refine Below.drew ?_ | (with_reducible refine Below.trans ?_ (Below.mono (by with_reducible assumption) (by first | omega | (simp; done) | (simp; omega)))) | (refine Below.trans ?_ (Below.mono (by assumption) (by first | omega | (simp; done) | (simp; omega))))))
          clear hWWx
          have k0 := hB.cell (i := 0) rfl
          have k1 := hB.cell (i := 1) rfl
          have k2 := hB.cell (i := 2) rfl
          have k3 := hB.cell (i := 3) rfl
          have k4 := hB.cell (i := 4) rfl
          have kf := hB.frozen
          have lW : w.heap.size < WWx.heap.size := hB.lt
          go_wp2_with fail
          refine bodyPost_named fun W9 h9 => ?_
          have hB9 : BlockIs W9 w.heap.size [.bool false, .int .u64 0, .int .u64 0, .int .i64 0, .int .i64 0] 38 := by subst h9; exact ((((hB.set 0 _).set 1 _).set 2 _).set 3 _).set 4 _
          have e90 := hB9.cell (i := 0) rfl
          have e91 := hB9.cell (i := 1) rfl
          have e92 := hB9.cell (i := 2) rfl
          have e93 := hB9.cell (i := 3) rfl
          have e94 := hB9.cell (i := 4) rfl
          have b9 : Below w.heap.size w W9 := by subst h9; exact ((((bwx.setCell (by simp) _).setCell (by simp) _).setCell (by simp) _).setCell (by simp) _).setCell (by simp) _
          clear h9 hB9
          exact bodyPost_ret (v := .tuple #[.agg #[.bool false, .int .u64 0, .int .u64 0, .int .i64 0, .int .i64 0], .bool false]) (by simp [results, Tryz.results13, go_sem, e90, e91, e92, e93, e94]) rfl ⟨rfl, b9⟩
        | true =>
          by_cases h7 : s.size < k + 7
          · have h7i : (s.size : Int) < (k : Int) + 7 := by omega
            obtain ⟨rfl, rfl⟩ : t = 0 ∧ is = false := by have := HSH.out h7; simpa using this
            obtain rfl : r = _ := HB1.out (Or.inr rfl)
            go_upto_region 7 with (first | (go_at_call 29; (with_reducible refine (HN.out _).mono ?_); rintro e w2 ⟨rfl, b2⟩; obtain ⟨c2, f2⟩ := bcell b2; have z2 := b2.size; (try simp at z2); have l2a : w.heap.size < w2.heap.size := (by omega); have n2a := Nat.ne_of_lt l2a; have d2a := fun o => c2 (w.heap.size) o (by first | omega | (simp; done) | (simp; omega)); have q2a := fun o => f2 (w.heap.size) o (by first | omega | (simp; done) | (simp; omega)); clear c2 f2) | (go_at_call 30; (with_reducible refine (HD.out _).mono ?_); rintro e w3 ⟨rfl, b3⟩; obtain ⟨c3, f3⟩ := bcell b3; have z3 := b3.size; (try simp at z3); have l3a : w.heap.size < w3.heap.size := (by omega); have n3a := Nat.ne_of_lt l3a; have d3a := fun o => c3 (w.heap.size) o (by first | omega | (simp; done) | (simp; omega)); have q3a := fun o => f3 (w.heap.size) o (by first | omega | (simp; done) | (simp; omega)); have l3b : w2.heap.size < w3.heap.size := (by omega); have n3b := Nat.ne_of_lt l3b; have d3b := fun o => c3 (w2.heap.size) o (by first | omega | (simp; done) | (simp; omega)); clear c3 f3) | (go_at_call 21; (with_reducible refine (HT.out _).mono ?_); rintro e w4 ⟨rfl, b4⟩; obtain ⟨c4, f4⟩ := bcell b4; have z4 := b4.size; (try simp at z4); have l4a : w.heap.size < w4.heap.size := (by omega); have n4a := Nat.ne_of_lt l4a; have d4a := fun o => c4 (w.heap.size) o (by first | omega | (simp; done) | (simp; omega)); have q4a := fun o => f4 (w.heap.size) o (by first | omega | (simp; done) | (simp; omega)); have d4b := fun o => c4 (w3.heap.size) o (by first | omega | (simp; done) | (simp; omega)); clear c4 f4))
            go_name_world WWx hWWx
            have hB : BlockIs WWx w.heap.size [.bool false, .int .u64 0, .int .u64 0, .int .i64 0, .int .i64 0] 38 := by subst hWWx; exact ((BlockIs.new w [.bool false, .int .u64 0, .int .u64 0, .int .i64 0, .int .i64 0] 38).below b2).alloc _
            have bwx : Below w.heap.size w WWx := by subst hWWx; (repeat (first | with_reducible assumption | with_reducible exact Below.refl _ _ | with_reducible refine Below.setCell ?_ (by first | omega | (simp; done) | (simp; omega)) _ | with_reducible refine Below.alloc ?_ (by first | omega | (simp; done) | (simp; omega)) _ | with_reducible refine Below.drew ?_ | (with_reducible refine Below.trans ?_ (Below.mono (by with_reducible assumption) (by first | omega | (simp; done) | (simp; omega)))) | (refine Below.trans ?_ (Below.mono (by assumption) (by first | omega | (simp; done) | (simp; omega))))))
            clear hWWx
            have k0 := hB.cell (i := 0) rfl
            have k1 := hB.cell (i := 1) rfl
            have k2 := hB.cell (i := 2) rfl
            have k3 := hB.cell (i := 3) rfl
            have k4 := hB.cell (i := 4) rfl
            have kf := hB.frozen
            have lW : w.heap.size < WWx.heap.size := hB.lt
            go_wp2_with fail
            refine bodyPost_named fun W9 h9 => ?_
            have hB9 : BlockIs W9 w.heap.size [.bool false, .int .u64 0, .int .u64 0, .int .i64 0, .int .i64 0] 38 := by subst h9; exact ((((hB.set 0 _).set 1 _).set 2 _).set 3 _).set 4 _
            have e90 := hB9.cell (i := 0) rfl
            have e91 := hB9.cell (i := 1) rfl
            have e92 := hB9.cell (i := 2) rfl
            have e93 := hB9.cell (i := 3) rfl
            have e94 := hB9.cell (i := 4) rfl
            have b9 : Below w.heap.size w W9 := by subst h9; exact ((((bwx.setCell (by simp) _).setCell (by simp) _).setCell (by simp) _).setCell (by simp) _).setCell (by simp) _
            clear h9 hB9
            exact bodyPost_ret (v := .tuple #[.agg #[.bool false, .int .u64 0, .int .u64 0, .int .i64 0, .int .i64 0], .bool false]) (by simp [results, Tryz.results13, go_sem, e90, e91, e92, e93, e94]) rfl ⟨rfl, b9⟩
          · have h7i : ¬ (s.size : Int) < (k : Int) + 7 := by omega
            have hto : ((k : Int) + 7).toNat = k + 7 := by omega
            cases is with
            | false =>
              obtain rfl : r = _ := HB1.out (Or.inr rfl)
              go_upto_region 11 with (first | (go_at_call 29; (with_reducible refine (HN.out _).mono ?_); rintro e w2 ⟨rfl, b2⟩; obtain ⟨c2, f2⟩ := bcell b2; have z2 := b2.size; (try simp at z2); have l2a : w.heap.size < w2.heap.size := (by omega); have n2a := Nat.ne_of_lt l2a; have d2a := fun o => c2 (w.heap.size) o (by first | omega | (simp; done) | (simp; omega)); have q2a := fun o => f2 (w.heap.size) o (by first | omega | (simp; done) | (simp; omega)); clear c2 f2) | (go_at_call 30; (with_reducible refine (HD.out _).mono ?_); rintro e w3 ⟨rfl, b3⟩; obtain ⟨c3, f3⟩ := bcell b3; have z3 := b3.size; (try simp at z3); have l3a : w.heap.size < w3.heap.size := (by omega); have n3a := Nat.ne_of_lt l3a; have d3a := fun o => c3 (w.heap.size) o (by first | omega | (simp; done) | (simp; omega)); have q3a := fun o => f3 (w.heap.size) o (by first | omega | (simp; done) | (simp; omega)); have l3b : w2.heap.size < w3.heap.size := (by omega); have n3b := Nat.ne_of_lt l3b; have d3b := fun o => c3 (w2.heap.size) o (by first | omega | (simp; done) | (simp; omega)); clear c3 f3) | (go_at_call 21; (with_reducible refine (HT.out _).mono ?_); rintro e w4 ⟨rfl, b4⟩; obtain ⟨c4, f4⟩ := bcell b4; have z4 := b4.size; (try simp at z4); have l4a : w.heap.size < w4.heap.size := (by omega); have n4a := Nat.ne_of_lt l4a; have d4a := fun o => c4 (w.heap.size) o (by first | omega | (simp; done) | (simp; omega)); have q4a := fun o => f4 (w.heap.size) o (by first | omega | (simp; done) | (simp; omega)); have d4b := fun o => c4 (w3.heap.size) o (by first | omega | (simp; done) | (simp; omega)); clear c4 f4))
              go_name_world WWx hWWx
              have hB : BlockIs WWx w.heap.size [.bool false, .int .u64 0, .int .u64 0, .int .i64 0, .int .i64 0] 38 := by subst hWWx; exact ((((BlockIs.new w [.bool false, .int .u64 0, .int .u64 0, .int .i64 0, .int .i64 0] 38).below b2).alloc _).below b3).alloc _
              have bwx : Below w.heap.size w WWx := by subst hWWx; (repeat (first | with_reducible assumption | with_reducible exact Below.refl _ _ | with_reducible refine Below.setCell ?_ (by first | omega | (simp; done) | (simp; omega)) _ | with_reducible refine Below.alloc ?_ (by first | omega | (simp; done) | (simp; omega)) _ | with_reducible refine Below.drew ?_ | (with_reducible refine Below.trans ?_ (Below.mono (by with_reducible assumption) (by first | omega | (simp; done) | (simp; omega)))) | (refine Below.trans ?_ (Below.mono (by assumption) (by first | omega | (simp; done) | (simp; omega))))))
              clear hWWx
              have k0 := hB.cell (i := 0) rfl
              have k1 := hB.cell (i := 1) rfl
              have k2 := hB.cell (i := 2) rfl
              have k3 := hB.cell (i := 3) rfl
              have k4 := hB.cell (i := 4) rfl
              have kf := hB.frozen
              have lW : w.heap.size < WWx.heap.size := hB.lt
              go_wp2_with fail
              refine bodyPost_named fun W9 h9 => ?_
              have hB9 : BlockIs W9 w.heap.size [.bool false, .int .u64 0, .int .u64 0, .int .i64 0, .int .i64 0] 38 := by subst h9; exact ((((hB.set 0 _).set 1 _).set 2 _).set 3 _).set 4 _
              have e90 := hB9.cell (i := 0) rfl
              have e91 := hB9.cell (i := 1) rfl
              have e92 := hB9.cell (i := 2) rfl
              have e93 := hB9.cell (i := 3) rfl
              have e94 := hB9.cell (i := 4) rfl
              have b9 : Below w.heap.size w W9 := by subst h9; exact ((((bwx.setCell (by simp) _).setCell (by simp) _).setCell (by simp) _).setCell (by simp) _).setCell (by simp) _
              clear h9 hB9
              exact bodyPost_ret (v := .tuple #[.agg #[.bool false, .int .u64 0, .int .u64 0, .int .i64 0, .int .i64 0], .bool false]) (by simp [results, Tryz.results13, go_sem, e90, e91, e92, e93, e94]) rfl ⟨rfl, b9⟩
            | true =>
              by_cases ht : tx = l
              · obtain rfl : r = _ := HG.out rfl rfl ht
                have htx := HTX.out
                rw [decide_eq_true ht] at htx
                clear ht
                go_upto_region 12 with (first | (go_at_call 29; (with_reducible refine (HN.out _).mono ?_); rintro e w2 ⟨rfl, b2⟩; obtain ⟨c2, f2⟩ := bcell b2; have z2 := b2.size; (try simp at z2); have l2a : w.heap.size < w2.heap.size := (by omega); have n2a := Nat.ne_of_lt l2a; have d2a := fun o => c2 (w.heap.size) o (by first | omega | (simp; done) | (simp; omega)); have q2a := fun o => f2 (w.heap.size) o (by first | omega | (simp; done) | (simp; omega)); clear c2 f2) | (go_at_call 30; (with_reducible refine (HD.out _).mono ?_); rintro e w3 ⟨rfl, b3⟩; obtain ⟨c3, f3⟩ := bcell b3; have z3 := b3.size; (try simp at z3); have l3a : w.heap.size < w3.heap.size := (by omega); have n3a := Nat.ne_of_lt l3a; have d3a := fun o => c3 (w.heap.size) o (by first | omega | (simp; done) | (simp; omega)); have q3a := fun o => f3 (w.heap.size) o (by first | omega | (simp; done) | (simp; omega)); have l3b : w2.heap.size < w3.heap.size := (by omega); have n3b := Nat.ne_of_lt l3b; have d3b := fun o => c3 (w2.heap.size) o (by first | omega | (simp; done) | (simp; omega)); clear c3 f3) | (go_at_call 21; (with_reducible refine (HT.out _).mono ?_); rintro e w4 ⟨rfl, b4⟩; obtain ⟨c4, f4⟩ := bcell b4; have z4 := b4.size; (try simp at z4); have l4a : w.heap.size < w4.heap.size := (by omega); have n4a := Nat.ne_of_lt l4a; have d4a := fun o => c4 (w.heap.size) o (by first | omega | (simp; done) | (simp; omega)); have q4a := fun o => f4 (w.heap.size) o (by first | omega | (simp; done) | (simp; omega)); have d4b := fun o => c4 (w3.heap.size) o (by first | omega | (simp; done) | (simp; omega)); clear c4 f4))
                go_name_world WWx hWWx
                have hB : BlockIs WWx w.heap.size [.bool false, .int .u64 0, .int .u64 0, .int .i64 0, .int .i64 0] 38 := by subst hWWx; exact (((((BlockIs.new w [.bool false, .int .u64 0, .int .u64 0, .int .i64 0, .int .i64 0] 38).below b2).alloc _).below b3).alloc _).below b4
                have hN : BlockIs WWx w3.heap.size [.bool n.ad.v6, .int .u64 n.ad.hi, .int .u64 n.ad.lo, .int .i64 n.bits, .int .i64 t] 38 := by subst hWWx; exact (BlockIs.new w3 [.bool n.ad.v6, .int .u64 n.ad.hi, .int .u64 n.ad.lo, .int .i64 n.bits, .int .i64 t] 38).below b4
                have bwx : Below w.heap.size w WWx := by subst hWWx; (repeat (first | with_reducible assumption | with_reducible exact Below.refl _ _ | with_reducible refine Below.setCell ?_ (by first | omega | (simp; done) | (simp; omega)) _ | with_reducible refine Below.alloc ?_ (by first | omega | (simp; done) | (simp; omega)) _ | with_reducible refine Below.drew ?_ | (with_reducible refine Below.trans ?_ (Below.mono (by with_reducible assumption) (by first | omega | (simp; done) | (simp; omega)))) | (refine Below.trans ?_ (Below.mono (by assumption) (by first | omega | (simp; done) | (simp; omega))))))
                clear hWWx
                have k0 := hB.cell (i := 0) rfl
                have k1 := hB.cell (i := 1) rfl
                have k2 := hB.cell (i := 2) rfl
                have k3 := hB.cell (i := 3) rfl
                have k4 := hB.cell (i := 4) rfl
                have kf := hB.frozen
                have lW : w.heap.size < WWx.heap.size := hB.lt
                have j0 := hN.cell (i := 0) rfl
                have j1 := hN.cell (i := 1) rfl
                have j2 := hN.cell (i := 2) rfl
                have j3 := hN.cell (i := 3) rfl
                have j4 := hN.cell (i := 4) rfl
                have lN : w3.heap.size < WWx.heap.size := hN.lt
                go_wp2_with fail
                refine bodyPost_named fun W9 h9 => ?_
                have hB9 : BlockIs W9 w.heap.size [.bool n.ad.v6, .int .u64 n.ad.hi, .int .u64 n.ad.lo, .int .i64 n.bits, .int .i64 t] 38 := by subst h9; exact ((((hB.set 0 _).set 1 _).set 2 _).set 3 _).set 4 _
                have e90 := hB9.cell (i := 0) rfl
                have e91 := hB9.cell (i := 1) rfl
                have e92 := hB9.cell (i := 2) rfl
                have e93 := hB9.cell (i := 3) rfl
                have e94 := hB9.cell (i := 4) rfl
                have b9 : Below w.heap.size w W9 := by subst h9; exact ((((bwx.setCell (by simp) _).setCell (by simp) _).setCell (by simp) _).setCell (by simp) _).setCell (by simp) _
                clear h9 hB9
                exact bodyPost_ret (v := .tuple #[.agg #[.bool n.ad.v6, .int .u64 n.ad.hi, .int .u64 n.ad.lo, .int .i64 n.bits, .int .i64 t], .bool true]) (by simp [results, Tryz.results13, go_sem, e90, e91, e92, e93, e94]) rfl ⟨rfl, b9⟩
              · obtain rfl : r = _ := HB2.out ht
                have htx := HTX.out
                rw [decide_eq_false ht] at htx
                clear ht
                go_upto_region 11 with (first | (go_at_call 29; (with_reducible refine (HN.out _).mono ?_); rintro e w2 ⟨rfl, b2⟩; obtain ⟨c2, f2⟩ := bcell b2; have z2 := b2.size; (try simp at z2); have l2a : w.heap.size < w2.heap.size := (by omega); have n2a := Nat.ne_of_lt l2a; have d2a := fun o => c2 (w.heap.size) o (by first | omega | (simp; done) | (simp; omega)); have q2a := fun o => f2 (w.heap.size) o (by first | omega | (simp; done) | (simp; omega)); clear c2 f2) | (go_at_call 30; (with_reducible refine (HD.out _).mono ?_); rintro e w3 ⟨rfl, b3⟩; obtain ⟨c3, f3⟩ := bcell b3; have z3 := b3.size; (try simp at z3); have l3a : w.heap.size < w3.heap.size := (by omega); have n3a := Nat.ne_of_lt l3a; have d3a := fun o => c3 (w.heap.size) o (by first | omega | (simp; done) | (simp; omega)); have q3a := fun o => f3 (w.heap.size) o (by first | omega | (simp; done) | (simp; omega)); have l3b : w2.heap.size < w3.heap.size := (by omega); have n3b := Nat.ne_of_lt l3b; have d3b := fun o => c3 (w2.heap.size) o (by first | omega | (simp; done) | (simp; omega)); clear c3 f3) | (go_at_call 21; (with_reducible refine (HT.out _).mono ?_); rintro e w4 ⟨rfl, b4⟩; obtain ⟨c4, f4⟩ := bcell b4; have z4 := b4.size; (try simp at z4); have l4a : w.heap.size < w4.heap.size := (by omega); have n4a := Nat.ne_of_lt l4a; have d4a := fun o => c4 (w.heap.size) o (by first | omega | (simp; done) | (simp; omega)); have q4a := fun o => f4 (w.heap.size) o (by first | omega | (simp; done) | (simp; omega)); have d4b := fun o => c4 (w3.heap.size) o (by first | omega | (simp; done) | (simp; omega)); clear c4 f4))
                go_name_world WWx hWWx
                have hB : BlockIs WWx w.heap.size [.bool false, .int .u64 0, .int .u64 0, .int .i64 0, .int .i64 0] 38 := by subst hWWx; exact (((((BlockIs.new w [.bool false, .int .u64 0, .int .u64 0, .int .i64 0, .int .i64 0] 38).below b2).alloc _).below b3).alloc _).below b4
                have bwx : Below w.heap.size w WWx := by subst hWWx; (repeat (first | with_reducible assumption | with_reducible exact Below.refl _ _ | with_reducible refine Below.setCell ?_ (by first | omega | (simp; done) | (simp; omega)) _ | with_reducible refine Below.alloc ?_ (by first | omega | (simp; done) | (simp; omega)) _ | with_reducible refine Below.drew ?_ | (with_reducible refine Below.trans ?_ (Below.mono (by with_reducible assumption) (by first | omega | (simp; done) | (simp; omega)))) | (refine Below.trans ?_ (Below.mono (by assumption) (by first | omega | (simp; done) | (simp; omega))))))
                clear hWWx
                have k0 := hB.cell (i := 0) rfl
                have k1 := hB.cell (i := 1) rfl
                have k2 := hB.cell (i := 2) rfl
                have k3 := hB.cell (i := 3) rfl
                have k4 := hB.cell (i := 4) rfl
                have kf := hB.frozen
                have lW : w.heap.size < WWx.heap.size := hB.lt
                go_wp2_with fail
                refine bodyPost_named fun W9 h9 => ?_
                have hB9 : BlockIs W9 w.heap.size [.bool false, .int .u64 0, .int .u64 0, .int .i64 0, .int .i64 0] 38 := by subst h9; exact ((((hB.set 0 _).set 1 _).set 2 _).set 3 _).set 4 _
                have e90 := hB9.cell (i := 0) rfl
                have e91 := hB9.cell (i := 1) rfl
                have e92 := hB9.cell (i := 2) rfl
                have e93 := hB9.cell (i := 3) rfl
                have e94 := hB9.cell (i := 4) rfl
                have b9 : Below w.heap.size w W9 := by subst h9; exact ((((bwx.setCell (by simp) _).setCell (by simp) _).setCell (by simp) _).setCell (by simp) _).setCell (by simp) _
                clear h9 hB9
                exact bodyPost_ret (v := .tuple #[.agg #[.bool false, .int .u64 0, .int .u64 0, .int .i64 0, .int .i64 0], .bool false]) (by simp [results, Tryz.results13, go_sem, e90, e91, e92, e93, e94]) rfl ⟨rfl, b9⟩
      · have q1 : ((s[m].toNat : Int) != 32) = true := by
          rw [bne_iff_ne]; intro c; exact c1 (byte_eq (by rw [c]; rfl))
        rw [if_neg c1] at hst
        have HS2 := Lib.hid hst.symm; clear hst c1
        go_wp2_with fail
        go_round
        case rel => exact ⟨m + 1, by go_num, by omega, HS2.out⟩
        case measure => simp [intOf]; omega
    · obtain rfl : m = s.size := by omega
      have hk2 : k = s.size := by have := HI.out; rw [HEND.out] at this; omega
      obtain ⟨rfl, rfl⟩ : t = 0 ∧ is = false := by have := HSH.out (by omega); simpa using this
      obtain rfl : r = _ := HB1.out (Or.inr rfl)
      clear hk2
      go_upto_region 13 with fail
      go_name_world WWx hWWx
      have hB : BlockIs WWx w.heap.size [.bool false, .int .u64 0, .int .u64 0, .int .i64 0, .int .i64 0] 38 := by subst hWWx; exact BlockIs.new w [.bool false, .int .u64 0, .int .u64 0, .int .i64 0, .int .i64 0] 38
      have bwx : Below w.heap.size w WWx := by subst hWWx; (repeat (first | with_reducible assumption | with_reducible exact Below.refl _ _ | with_reducible refine Below.setCell ?_ (by first | omega | (simp; done) | (simp; omega)) _ | with_reducible refine Below.alloc ?_ (by first | omega | (simp; done) | (simp; omega)) _ | with_reducible refine Below.drew ?_ | (with_reducible refine Below.trans ?_ (Below.mono (by with_reducible assumption) (by first | omega | (simp; done) | (simp; omega)))) | (refine Below.trans ?_ (Below.mono (by assumption) (by first | omega | (simp; done) | (simp; omega))))))
      clear hWWx
      have k0 := hB.cell (i := 0) rfl
      have k1 := hB.cell (i := 1) rfl
      have k2 := hB.cell (i := 2) rfl
      have k3 := hB.cell (i := 3) rfl
      have k4 := hB.cell (i := 4) rfl
      have kf := hB.frozen
      have lW : w.heap.size < WWx.heap.size := hB.lt
      go_wp2_with fail
      refine bodyPost_named fun W9 h9 => ?_
      have hB9 : BlockIs W9 w.heap.size [.bool false, .int .u64 0, .int .u64 0, .int .i64 0, .int .i64 0] 38 := by subst h9; exact ((((hB.set 0 _).set 1 _).set 2 _).set 3 _).set 4 _
      have e90 := hB9.cell (i := 0) rfl
      have e91 := hB9.cell (i := 1) rfl
      have e92 := hB9.cell (i := 2) rfl
      have e93 := hB9.cell (i := 3) rfl
      have e94 := hB9.cell (i := 4) rfl
      have b9 : Below w.heap.size w W9 := by subst h9; exact ((((bwx.setCell (by simp) _).setCell (by simp) _).setCell (by simp) _).setCell (by simp) _).setCell (by simp) _
      clear h9 hB9
      exact bodyPost_ret (v := .tuple #[.agg #[.bool false, .int .u64 0, .int .u64 0, .int .i64 0, .int .i64 0], .bool false]) (by simp [results, Tryz.results13, go_sem, e90, e91, e92, e93, e94]) rfl ⟨rfl, b9⟩
end Go.Proofs.YtdmobgdgeiiicaaGreat
