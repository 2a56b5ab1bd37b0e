/- Texts put together: EndR. No condition. -/
import Derived.Test.YtnohkfbapibmdaaGreatRkovotzgmgw
namespace Go.Proofs.YtnohkfbapibmdaaGreat
open Go.RowKit
set_option linter.unusedSimpArgs false
set_option linter.unusedVariables false

/-- what the reference says at a place: nothing, but at the last colon -/
theorem dec_colon {t : List UInt8} (h : (58 : UInt8) ∈ t) (m : Int) : (decParse t m).2 = false := by
  cases hc : (decParse t m).2 with
  | false => rfl
  | true =>
    obtain ⟨k, _, h2, _⟩ := decParse_true (l := t) (most := m) (n := (decParse t m).1) (by rw [← hc])
    rw [h2] at h; exact absurd h (digs_no58 k)
/-- no answer at places below k -/
def EnSo (l : List UInt8) (k : Nat) : Prop := ∀ i, lastO 58 l = some i → i < k → enParse l = zeroE
theorem EnSo.skip {l : List UInt8} {k : Nat} (h : EnSo l k) (hk : l[k]? ≠ some 58) : EnSo l (k + 1) := by
  intro i hi hlt
  rcases Nat.lt_or_ge i k with h2 | h2
  · exact h i hi h2
  · obtain rfl : i = k := by omega
    exact absurd (lastO_some hi).1 hk
theorem EnSo.step {l : List UInt8} {k : Nat} (h : EnSo l k) (hz : (58 : UInt8) ∉ l.drop (k + 1) → enPart (l.take k) (decParse (l.drop (k + 1)) 65535) = zeroE) : EnSo l (k + 1) := by
  intro i hi hlt
  rcases Nat.lt_or_ge i k with h2 | h2
  · exact h i hi h2
  · obtain rfl : i = k := by omega
    unfold enParse; rw [hi]; exact hz (lastO_some hi).2.1
theorem EnSo.done {l : List UInt8} (h : EnSo l l.length) : enParse l = zeroE := by
  cases hl : lastO 58 l with
  | none => unfold enParse; rw [hl]
  | some i => exact h i hl (lastO_some hl).2.2
theorem enParse_at {l : List UInt8} {k : Nat} (hk : l[k]? = some 58) (h : (decParse (l.drop (k + 1)) 65535).2 = true) : enParse l = enPart (l.take k) (decParse (l.drop (k + 1)) 65535) := by
  have : (58 : UInt8) ∉ l.drop (k + 1) := fun hm => by rw [dec_colon hm] at h; cases h
  unfold enParse; rw [lastO_at hk this]
set_option maxRecDepth 100000 in
set_option maxHeartbeats 8000000 in
theorem refEnParse_any (s : ByteArray) (w : World) (hs : s.size ≤ 4000000000) : Calls Tryz.prog 21 #[.string s] w (GivesEn w (enParse s.data.toList)) := by
  obtain ⟨l, hl⟩ : ∃ l, s.data.toList = l := ⟨_, rfl⟩
  have hlen : l.length = s.size := by rw [← hl]; exact len_data s
  have hget : ∀ k (h : k < s.size), l[k]? = some s[k] := by rw [← hl]; exact get_data s
  have hx1 : ∀ k, s.extract 0 k = bs (l.take k) := by rw [← hl]; exact extract_take s
  have hx2 : ∀ k, s.extract k s.size = bs (l.drop k) := by rw [← hl]; exact extract_drop s
  have hx3 : ∀ a b, s.extract a b = bs ((l.drop a).take (b - a)) := by rw [← hl]; exact extract_mid s
  unfold GivesEn
  rw [hl]
  obtain ⟨r, hr⟩ : ∃ r, enParse l = r := ⟨_, rfl⟩
  rw [hr]
  have HR := Lib.hid hr; have HG := Lib.hid hget; have HX1 := Lib.hid hx1; have HX2 := Lib.hid hx2; have HX3 := Lib.hid hx3
  clear hr hget hx1 hx2 hx3
  go_enter Tryz.func21, Tryz.ntmps21
  go_wp2_with fail
  go_name_world WWx hWWx
  have hB : BlockIs WWx w.heap.size [.bool false, .int .u64 0, .int .u64 0, .int .i64 0] 26 := by subst hWWx; exact BlockIs.new w [.bool false, .int .u64 0, .int .u64 0, .int .i64 0] 26
  have bwx : Below w.heap.size w WWx := by subst hWWx; (repeat (first | assumption | exact Below.refl _ _ | refine Below.setCell ?_ (by first | omega | (simp; done) | (simp; omega)) _ | refine Below.alloc ?_ (by first | omega | (simp; done) | (simp; omega)) _ | refine Below.drew ?_ | (refine Below.trans ?_ (Below.mono (by assumption) (by first | omega | (simp; done) | (simp; omega))))))
  have lWx : w.heap.size < WWx.heap.size := hB.lt
  clear hWWx
  go_loopw [4] (fun i wr => ∃ k : Nat, i = .int .i64 k ∧ k ≤ s.size ∧ Hid (EnSo l k) ∧ Below WWx.heap.size WWx wr) (fun i _ => s.size - (intOf i).toNat)
  case atStart => exact ⟨0, rfl, by omega, (by intro i _ h; omega : EnSo l 0), Below.refl _ _⟩
  case round =>
    obtain ⟨k, rfl, hk, HE, hb⟩ := hrel
    have hBr := hB.below hb
    have k0 := hBr.cell (i := 0) rfl
    have k1 := hBr.cell (i := 1) rfl
    have k2 := hBr.cell (i := 2) rfl
    have k3 := hBr.cell (i := 3) rfl
    have kf := hBr.frozen
    have lr : w.heap.size < wr.heap.size := hBr.lt
    have zr := hb.size
    have bww := bwx.trans (hb.mono (show w.heap.size ≤ WWx.heap.size from by omega))
    clear hBr
    by_cases hlt : k < s.size
    · have hki : (k : Int) < s.size := by omega
      have hkl := HG.out k hlt
      by_cases c1 : s[k] = 58
      · have q1 : ((s[k].toNat : Int) != 58) = false := by rw [c1]; rfl
        rw [c1] at hkl
        have e1 := HX1.out k
        have e2 := HX2.out (k + 1)
        have hD := fun w => refParse_any (bs (l.drop (k + 1))) 65535 w (by rw [bs_size, List.length_drop]; omega) (by omega) (by omega)
        have h4 := fun w => ref4Parse_any (bs (l.take k)) w (by rw [bs_size, List.length_take]; omega)
        rw [bs_data] at hD h4
        have hat := enParse_at hkl
        have hstep := EnSo.step HE.out
        have hqb := dec_le (l := l.drop (k + 1)) (m := 65535) (by omega)
        have hv4lt := @adParse_lt4 (l.take k)
        rw [HR.out] at hat
        clear c1
        unfold enPart at hat hstep
        have hhl : (l.take k).length = k := by rw [List.length_take]; omega
        have hh0 : 0 < k → (l.take k)[0]? = some (s[0]'(by omega)) := fun h => by rw [List.getElem?_take, if_pos h]; exact HG.out 0 (by omega)
        have hhz : ∀ m (h : m + 1 = k), (l.take k)[k - 1]? = some (s[m]'(by omega)) := fun m h => by rw [List.getElem?_take, if_pos (by omega), show k - 1 = m from by omega]; exact HG.out m (by omega)
        have hinn : 2 ≤ k → s.extract 1 (k - 1) = bs (innerL (l.take k)) := fun h => by
          rw [HX3.out]; congr 1
          unfold innerL
          rw [hhl, List.drop_take, List.take_take, show min (k - 2) (k - 1) = k - 1 - 1 from by omega]
        generalize decParse (l.drop (k + 1)) 65535 = q at *
        obtain ⟨n, ok⟩ := q
        simp only at hD hat hstep hqb
        obtain ⟨qa, qb⟩ := hqb
        have HD := Lib.hid hD; clear hD
        cases ok with
        | false =>
          have hs1 := Lib.hid (hstep (fun _ => by rw [if_pos (Or.inl rfl)]))
          clear hat hstep h4
          go_wp2_with (first | (go_at_call 20; (with_reducible refine (HD.out _).mono ?_); rintro e w1 ⟨rfl, b1⟩; obtain ⟨c1, f1⟩ := bcell b1; have z1 := b1.size; (try simp at z1); have d1a := fun o => c1 (w.heap.size) o (by first | omega | (simp; done) | (simp; omega)); have q1a := fun o => f1 (w.heap.size) o (by first | omega | (simp; done) | (simp; omega)); clear c1 f1) | (go_at_call 44; (with_reducible refine (H4.out _).mono ?_); rintro e w2 ⟨rfl, b2⟩; obtain ⟨c2, f2⟩ := bcell b2; have z2 := b2.size; (try simp at z2); have d2a := fun o => c2 (w.heap.size) o (by first | omega | (simp; done) | (simp; omega)); have q2a := fun o => f2 (w.heap.size) o (by first | omega | (simp; done) | (simp; omega)); clear c2 f2) | (go_at_call 45; (with_reducible refine (H6.out _).mono ?_); rintro e w3 ⟨rfl, b3⟩; obtain ⟨c3, f3⟩ := bcell b3; have z3 := b3.size; (try simp at z3); have d3a := fun o => c3 (w.heap.size) o (by first | omega | (simp; done) | (simp; omega)); have q3a := fun o => f3 (w.heap.size) o (by first | omega | (simp; done) | (simp; omega)); clear c3 f3) | (go_at_call 46; (with_reducible refine (HV.out _).mono ?_); rintro e w4 ⟨rfl, b4⟩; obtain ⟨c4, f4⟩ := bcell b4; have z4 := b4.size; (try simp at z4); have d4a := fun o => c4 (w.heap.size) o (by first | omega | (simp; done) | (simp; omega)); have q4a := fun o => f4 (w.heap.size) o (by first | omega | (simp; done) | (simp; omega)); clear c4 f4))
          go_roundw
          case rel =>
            refine ⟨k + 1, by go_num, by omega, hs1.out, ?_⟩
            refine hb.trans ?_
            (repeat (first | assumption | exact Below.refl _ _ | refine Below.setCell ?_ (by first | omega | (simp; done) | (simp; omega)) _ | refine Below.alloc ?_ (by first | omega | (simp; done) | (simp; omega)) _ | refine Below.drew ?_ | (refine Below.trans ?_ (Below.mono (by assumption) (by first | omega | (simp; done) | (simp; omega))))))
          case measure => simp [intOf]; omega
        | true =>
          by_cases hn : n < 1
          · have hs1 := Lib.hid (hstep (fun _ => by rw [if_pos (Or.inr hn)]))
            have hnd : decide (n < 1) = true := decide_eq_true hn
            clear hat hstep h4
            go_wp2_with (first | (go_at_call 20; (with_reducible refine (HD.out _).mono ?_); rintro e w1 ⟨rfl, b1⟩; obtain ⟨c1, f1⟩ := bcell b1; have z1 := b1.size; (try simp at z1); have d1a := fun o => c1 (w.heap.size) o (by first | omega | (simp; done) | (simp; omega)); have q1a := fun o => f1 (w.heap.size) o (by first | omega | (simp; done) | (simp; omega)); clear c1 f1) | (go_at_call 44; (with_reducible refine (H4.out _).mono ?_); rintro e w2 ⟨rfl, b2⟩; obtain ⟨c2, f2⟩ := bcell b2; have z2 := b2.size; (try simp at z2); have d2a := fun o => c2 (w.heap.size) o (by first | omega | (simp; done) | (simp; omega)); have q2a := fun o => f2 (w.heap.size) o (by first | omega | (simp; done) | (simp; omega)); clear c2 f2) | (go_at_call 45; (with_reducible refine (H6.out _).mono ?_); rintro e w3 ⟨rfl, b3⟩; obtain ⟨c3, f3⟩ := bcell b3; have z3 := b3.size; (try simp at z3); have d3a := fun o => c3 (w.heap.size) o (by first | omega | (simp; done) | (simp; omega)); have q3a := fun o => f3 (w.heap.size) o (by first | omega | (simp; done) | (simp; omega)); clear c3 f3) | (go_at_call 46; (with_reducible refine (HV.out _).mono ?_); rintro e w4 ⟨rfl, b4⟩; obtain ⟨c4, f4⟩ := bcell b4; have z4 := b4.size; (try simp at z4); have d4a := fun o => c4 (w.heap.size) o (by first | omega | (simp; done) | (simp; omega)); have q4a := fun o => f4 (w.heap.size) o (by first | omega | (simp; done) | (simp; omega)); clear c4 f4))
            go_roundw
            case rel =>
              refine ⟨k + 1, by go_num, by omega, hs1.out, ?_⟩
              refine hb.trans ?_
              (repeat (first | assumption | exact Below.refl _ _ | refine Below.setCell ?_ (by first | omega | (simp; done) | (simp; omega)) _ | refine Below.alloc ?_ (by first | omega | (simp; done) | (simp; omega)) _ | refine Below.drew ?_ | (refine Below.trans ?_ (Below.mono (by assumption) (by first | omega | (simp; done) | (simp; omega))))))
            case measure => simp [intOf]; omega
          have hnd : decide (n < 1) = false := decide_eq_false hn
          have hc0 : ¬ (true = false ∨ n < 1) := by rintro (c | c); cases c; exact hn c
          rw [if_neg hc0] at hat hstep
          have hat := hat rfl
          generalize hv4 : v4parse (l.take k) = p at *
          obtain ⟨N, ok4⟩ := p
          simp only at h4 hat hstep hv4lt
          have H4 := Lib.hid h4; clear h4
          cases ok4 with
          | true =>
            rw [if_pos rfl] at hat
            have hN := hv4lt rfl
            have hw : IntKind.u64.wrap (N : Int) = N := IntWalk.u64_in _ (by omega)
            clear hstep
            subst hat
            try unfold ad4
            go_wp2_with (first | (go_at_call 20; (with_reducible refine (HD.out _).mono ?_); rintro e w1 ⟨rfl, b1⟩; obtain ⟨c1, f1⟩ := bcell b1; have z1 := b1.size; (try simp at z1); have d1a := fun o => c1 (w.heap.size) o (by first | omega | (simp; done) | (simp; omega)); have q1a := fun o => f1 (w.heap.size) o (by first | omega | (simp; done) | (simp; omega)); clear c1 f1) | (go_at_call 44; (with_reducible refine (H4.out _).mono ?_); rintro e w2 ⟨rfl, b2⟩; obtain ⟨c2, f2⟩ := bcell b2; have z2 := b2.size; (try simp at z2); have d2a := fun o => c2 (w.heap.size) o (by first | omega | (simp; done) | (simp; omega)); have q2a := fun o => f2 (w.heap.size) o (by first | omega | (simp; done) | (simp; omega)); clear c2 f2) | (go_at_call 45; (with_reducible refine (H6.out _).mono ?_); rintro e w3 ⟨rfl, b3⟩; obtain ⟨c3, f3⟩ := bcell b3; have z3 := b3.size; (try simp at z3); have d3a := fun o => c3 (w.heap.size) o (by first | omega | (simp; done) | (simp; omega)); have q3a := fun o => f3 (w.heap.size) o (by first | omega | (simp; done) | (simp; omega)); clear c3 f3) | (go_at_call 46; (with_reducible refine (HV.out _).mono ?_); rintro e w4 ⟨rfl, b4⟩; obtain ⟨c4, f4⟩ := bcell b4; have z4 := b4.size; (try simp at z4); have d4a := fun o => c4 (w.heap.size) o (by first | omega | (simp; done) | (simp; omega)); have q4a := fun o => f4 (w.heap.size) o (by first | omega | (simp; done) | (simp; omega)); clear c4 f4))
            refine bodyPost_ret (v := .tuple #[.agg #[.bool false, .int .u64 0, .int .u64 N, .int .i64 n], .bool true]) (by simp [results, Tryz.results21, go_sem, *]) rfl ⟨rfl, ?_⟩
            (repeat (first | assumption | exact Below.refl _ _ | refine Below.setCell ?_ (by first | omega | (simp; done) | (simp; omega)) _ | refine Below.alloc ?_ (by first | omega | (simp; done) | (simp; omega)) _ | refine Below.drew ?_ | (refine Below.trans ?_ (Below.mono (by assumption) (by first | omega | (simp; done) | (simp; omega))))))
          | false =>
            rw [if_neg (by simp)] at hat hstep
            by_cases hk2 : k < 2
            · have hs1 := Lib.hid (hstep (fun _ => by rw [if_neg]; rintro ⟨⟨c, _⟩, _⟩; omega))
              have hkd : decide ((k : Int) < 2) = true := decide_eq_true (by omega)
              have hkd2 : decide (k < 2) = true := decide_eq_true hk2
              clear hat hstep
              go_wp2_with (first | (go_at_call 20; (with_reducible refine (HD.out _).mono ?_); rintro e w1 ⟨rfl, b1⟩; obtain ⟨c1, f1⟩ := bcell b1; have z1 := b1.size; (try simp at z1); have d1a := fun o => c1 (w.heap.size) o (by first | omega | (simp; done) | (simp; omega)); have q1a := fun o => f1 (w.heap.size) o (by first | omega | (simp; done) | (simp; omega)); clear c1 f1) | (go_at_call 44; (with_reducible refine (H4.out _).mono ?_); rintro e w2 ⟨rfl, b2⟩; obtain ⟨c2, f2⟩ := bcell b2; have z2 := b2.size; (try simp at z2); have d2a := fun o => c2 (w.heap.size) o (by first | omega | (simp; done) | (simp; omega)); have q2a := fun o => f2 (w.heap.size) o (by first | omega | (simp; done) | (simp; omega)); clear c2 f2) | (go_at_call 45; (with_reducible refine (H6.out _).mono ?_); rintro e w3 ⟨rfl, b3⟩; obtain ⟨c3, f3⟩ := bcell b3; have z3 := b3.size; (try simp at z3); have d3a := fun o => c3 (w.heap.size) o (by first | omega | (simp; done) | (simp; omega)); have q3a := fun o => f3 (w.heap.size) o (by first | omega | (simp; done) | (simp; omega)); clear c3 f3) | (go_at_call 46; (with_reducible refine (HV.out _).mono ?_); rintro e w4 ⟨rfl, b4⟩; obtain ⟨c4, f4⟩ := bcell b4; have z4 := b4.size; (try simp at z4); have d4a := fun o => c4 (w.heap.size) o (by first | omega | (simp; done) | (simp; omega)); have q4a := fun o => f4 (w.heap.size) o (by first | omega | (simp; done) | (simp; omega)); clear c4 f4))
              go_roundw
              case rel =>
                refine ⟨k + 1, by go_num, by omega, hs1.out, ?_⟩
                refine hb.trans ?_
                (repeat (first | assumption | exact Below.refl _ _ | refine Below.setCell ?_ (by first | omega | (simp; done) | (simp; omega)) _ | refine Below.alloc ?_ (by first | omega | (simp; done) | (simp; omega)) _ | refine Below.drew ?_ | (refine Below.trans ?_ (Below.mono (by assumption) (by first | omega | (simp; done) | (simp; omega))))))
              case measure => simp [intOf]; omega
            have hkd : decide ((k : Int) < 2) = false := decide_eq_false (by omega)
            have hkd2 : decide (k < 2) = false := decide_eq_false hk2
            have hh0 := hh0 (by omega)
            have hsz0 : (0 : Int) < s.size := by omega
            by_cases hb0 : s[0]'(by omega) = 91
            · have q91 : (((s[0]'(by omega)).toNat : Int) != 91) = false := by rw [hb0]; rfl
              obtain ⟨m, hm⟩ : ∃ m, m + 1 = k := ⟨k - 1, by omega⟩
              have hhz := hhz m hm
              have hmk : (k : Int) - 1 = m := by omega
              have hmn : ((k : Int) - 1).toNat = m := by omega
              have hms : (m : Int) < s.size := by omega
              by_cases hb9 : s[m]'(by omega) = 93
              · have q93 : (((s[m]'(by omega)).toNat : Int) != 93) = false := by rw [hb9]; rfl
                have hbx : boxed (l.take k) := ⟨by omega, by rw [hh0, hb0], by rw [hhl, hhz, hb9]⟩
                have e3 := hinn (by omega)
                have e4 : s.extract 1 m = bs (innerL (l.take k)) := by rw [← e3]; congr 1; omega
                have h6 := fun w => ref6Parse_any (bs (innerL (l.take k))) w (by rw [bs_size]; unfold innerL; rw [List.length_take]; omega)
                rw [bs_data] at h6
                have h6lt := v6parse_lt (innerL (l.take k))
                generalize hv6 : v6parse (innerL (l.take k)) = v at *
                obtain ⟨hi, lo, ok6⟩ := v
                simp only at h6 hat hstep h6lt
                have H6 := Lib.hid h6; clear h6
                cases ok6 with
                | true =>
                  rw [if_pos ⟨hbx, rfl⟩] at hat
                  have hV := fun w => refAdV6_any hi lo h6lt.1 h6lt.2 w
                  generalize adOf hi lo = oo at *
                  have HV := Lib.hid hV; clear hV hstep
                  subst hat
                  go_wp2_with (first | (go_at_call 20; (with_reducible refine (HD.out _).mono ?_); rintro e w1 ⟨rfl, b1⟩; obtain ⟨c1, f1⟩ := bcell b1; have z1 := b1.size; (try simp at z1); have d1a := fun o => c1 (w.heap.size) o (by first | omega | (simp; done) | (simp; omega)); have q1a := fun o => f1 (w.heap.size) o (by first | omega | (simp; done) | (simp; omega)); clear c1 f1) | (go_at_call 44; (with_reducible refine (H4.out _).mono ?_); rintro e w2 ⟨rfl, b2⟩; obtain ⟨c2, f2⟩ := bcell b2; have z2 := b2.size; (try simp at z2); have d2a := fun o => c2 (w.heap.size) o (by first | omega | (simp; done) | (simp; omega)); have q2a := fun o => f2 (w.heap.size) o (by first | omega | (simp; done) | (simp; omega)); clear c2 f2) | (go_at_call 45; (with_reducible refine (H6.out _).mono ?_); rintro e w3 ⟨rfl, b3⟩; obtain ⟨c3, f3⟩ := bcell b3; have z3 := b3.size; (try simp at z3); have d3a := fun o => c3 (w.heap.size) o (by first | omega | (simp; done) | (simp; omega)); have q3a := fun o => f3 (w.heap.size) o (by first | omega | (simp; done) | (simp; omega)); clear c3 f3) | (go_at_call 46; (with_reducible refine (HV.out _).mono ?_); rintro e w4 ⟨rfl, b4⟩; obtain ⟨c4, f4⟩ := bcell b4; have z4 := b4.size; (try simp at z4); have d4a := fun o => c4 (w.heap.size) o (by first | omega | (simp; done) | (simp; omega)); have q4a := fun o => f4 (w.heap.size) o (by first | omega | (simp; done) | (simp; omega)); clear c4 f4))
                  refine bodyPost_ret (v := .tuple #[.agg #[.bool oo.v6, .int .u64 oo.hi, .int .u64 oo.lo, .int .i64 n], .bool true]) (by simp [results, Tryz.results21, go_sem, *]) rfl ⟨rfl, ?_⟩
                  (repeat (first | assumption | exact Below.refl _ _ | refine Below.setCell ?_ (by first | omega | (simp; done) | (simp; omega)) _ | refine Below.alloc ?_ (by first | omega | (simp; done) | (simp; omega)) _ | refine Below.drew ?_ | (refine Below.trans ?_ (Below.mono (by assumption) (by first | omega | (simp; done) | (simp; omega))))))
                | false =>
                  have hs1 := Lib.hid (hstep (fun _ => by rw [if_neg]; rintro ⟨_, c⟩; cases c))
                  clear hat hstep
                  go_wp2_with (first | (go_at_call 20; (with_reducible refine (HD.out _).mono ?_); rintro e w1 ⟨rfl, b1⟩; obtain ⟨c1, f1⟩ := bcell b1; have z1 := b1.size; (try simp at z1); have d1a := fun o => c1 (w.heap.size) o (by first | omega | (simp; done) | (simp; omega)); have q1a := fun o => f1 (w.heap.size) o (by first | omega | (simp; done) | (simp; omega)); clear c1 f1) | (go_at_call 44; (with_reducible refine (H4.out _).mono ?_); rintro e w2 ⟨rfl, b2⟩; obtain ⟨c2, f2⟩ := bcell b2; have z2 := b2.size; (try simp at z2); have d2a := fun o => c2 (w.heap.size) o (by first | omega | (simp; done) | (simp; omega)); have q2a := fun o => f2 (w.heap.size) o (by first | omega | (simp; done) | (simp; omega)); clear c2 f2) | (go_at_call 45; (with_reducible refine (H6.out _).mono ?_); rintro e w3 ⟨rfl, b3⟩; obtain ⟨c3, f3⟩ := bcell b3; have z3 := b3.size; (try simp at z3); have d3a := fun o => c3 (w.heap.size) o (by first | omega | (simp; done) | (simp; omega)); have q3a := fun o => f3 (w.heap.size) o (by first | omega | (simp; done) | (simp; omega)); clear c3 f3) | (go_at_call 46; (with_reducible refine (HV.out _).mono ?_); rintro e w4 ⟨rfl, b4⟩; obtain ⟨c4, f4⟩ := bcell b4; have z4 := b4.size; (try simp at z4); have d4a := fun o => c4 (w.heap.size) o (by first | omega | (simp; done) | (simp; omega)); have q4a := fun o => f4 (w.heap.size) o (by first | omega | (simp; done) | (simp; omega)); clear c4 f4))
                  go_roundw
                  case rel =>
                    refine ⟨k + 1, by go_num, by omega, hs1.out, ?_⟩
                    refine hb.trans ?_
                    (repeat (first | assumption | exact Below.refl _ _ | refine Below.setCell ?_ (by first | omega | (simp; done) | (simp; omega)) _ | refine Below.alloc ?_ (by first | omega | (simp; done) | (simp; omega)) _ | refine Below.drew ?_ | (refine Below.trans ?_ (Below.mono (by assumption) (by first | omega | (simp; done) | (simp; omega))))))
                  case measure => simp [intOf]; omega
              · have q93 : (((s[m]'(by omega)).toNat : Int) != 93) = true := by
                  rw [bne_iff_ne]; intro c; exact hb9 (byte_eq (by rw [c]; rfl))
                have hs1 := Lib.hid (hstep (fun _ => by rw [if_neg]; rintro ⟨⟨_, _, c⟩, _⟩; rw [hhl, hhz] at c; injection c with c; exact hb9 c))
                clear hat hstep
                go_wp2_with (first | (go_at_call 20; (with_reducible refine (HD.out _).mono ?_); rintro e w1 ⟨rfl, b1⟩; obtain ⟨c1, f1⟩ := bcell b1; have z1 := b1.size; (try simp at z1); have d1a := fun o => c1 (w.heap.size) o (by first | omega | (simp; done) | (simp; omega)); have q1a := fun o => f1 (w.heap.size) o (by first | omega | (simp; done) | (simp; omega)); clear c1 f1) | (go_at_call 44; (with_reducible refine (H4.out _).mono ?_); rintro e w2 ⟨rfl, b2⟩; obtain ⟨c2, f2⟩ := bcell b2; have z2 := b2.size; (try simp at z2); have d2a := fun o => c2 (w.heap.size) o (by first | omega | (simp; done) | (simp; omega)); have q2a := fun o => f2 (w.heap.size) o (by first | omega | (simp; done) | (simp; omega)); clear c2 f2) | (go_at_call 45; (with_reducible refine (H6.out _).mono ?_); rintro e w3 ⟨rfl, b3⟩; obtain ⟨c3, f3⟩ := bcell b3; have z3 := b3.size; (try simp at z3); have d3a := fun o => c3 (w.heap.size) o (by first | omega | (simp; done) | (simp; omega)); have q3a := fun o => f3 (w.heap.size) o (by first | omega | (simp; done) | (simp; omega)); clear c3 f3) | (go_at_call 46; (with_reducible refine (HV.out _).mono ?_); rintro e w4 ⟨rfl, b4⟩; obtain ⟨c4, f4⟩ := bcell b4; have z4 := b4.size; (try simp at z4); have d4a := fun o => c4 (w.heap.size) o (by first | omega | (simp; done) | (simp; omega)); have q4a := fun o => f4 (w.heap.size) o (by first | omega | (simp; done) | (simp; omega)); clear c4 f4))
                go_roundw
                case rel =>
                  refine ⟨k + 1, by go_num, by omega, hs1.out, ?_⟩
                  refine hb.trans ?_
                  (repeat (first | assumption | exact Below.refl _ _ | refine Below.setCell ?_ (by first | omega | (simp; done) | (simp; omega)) _ | refine Below.alloc ?_ (by first | omega | (simp; done) | (simp; omega)) _ | refine Below.drew ?_ | (refine Below.trans ?_ (Below.mono (by assumption) (by first | omega | (simp; done) | (simp; omega))))))
                case measure => simp [intOf]; omega
            · have q91 : (((s[0]'(by omega)).toNat : Int) != 91) = true := by
                rw [bne_iff_ne]; intro c; exact hb0 (byte_eq (by rw [c]; rfl))
              have hs1 := Lib.hid (hstep (fun _ => by rw [if_neg]; rintro ⟨⟨_, c, _⟩, _⟩; rw [hh0] at c; injection c with c; exact hb0 c))
              clear hat hstep
              go_wp2_with (first | (go_at_call 20; (with_reducible refine (HD.out _).mono ?_); rintro e w1 ⟨rfl, b1⟩; obtain ⟨c1, f1⟩ := bcell b1; have z1 := b1.size; (try simp at z1); have d1a := fun o => c1 (w.heap.size) o (by first | omega | (simp; done) | (simp; omega)); have q1a := fun o => f1 (w.heap.size) o (by first | omega | (simp; done) | (simp; omega)); clear c1 f1) | (go_at_call 44; (with_reducible refine (H4.out _).mono ?_); rintro e w2 ⟨rfl, b2⟩; obtain ⟨c2, f2⟩ := bcell b2; have z2 := b2.size; (try simp at z2); have d2a := fun o => c2 (w.heap.size) o (by first | omega | (simp; done) | (simp; omega)); have q2a := fun o => f2 (w.heap.size) o (by first | omega | (simp; done) | (simp; omega)); clear c2 f2) | (go_at_call 45; (with_reducible refine (H6.out _).mono ?_); rintro e w3 ⟨rfl, b3⟩; obtain ⟨c3, f3⟩ := bcell b3; have z3 := b3.size; (try simp at z3); have d3a := fun o => c3 (w.heap.size) o (by first | omega | (simp; done) | (simp; omega)); have q3a := fun o => f3 (w.heap.size) o (by first | omega | (simp; done) | (simp; omega)); clear c3 f3) | (go_at_call 46; (with_reducible refine (HV.out _).mono ?_); rintro e w4 ⟨rfl, b4⟩; obtain ⟨c4, f4⟩ := bcell b4; have z4 := b4.size; (try simp at z4); have d4a := fun o => c4 (w.heap.size) o (by first | omega | (simp; done) | (simp; omega)); have q4a := fun o => f4 (w.heap.size) o (by first | omega | (simp; done) | (simp; omega)); clear c4 f4))
              go_roundw
              case rel =>
                refine ⟨k + 1, by go_num, by omega, hs1.out, ?_⟩
                refine hb.trans ?_
                (repeat (first | assumption | exact Below.refl _ _ | refine Below.setCell ?_ (by first | omega | (simp; done) | (simp; omega)) _ | refine Below.alloc ?_ (by first | omega | (simp; done) | (simp; omega)) _ | refine Below.drew ?_ | (refine Below.trans ?_ (Below.mono (by assumption) (by first | omega | (simp; done) | (simp; omega))))))
              case measure => simp [intOf]; omega
      · have q1 : ((s[k].toNat : Int) != 58) = true := by
          rw [bne_iff_ne]; intro c; exact c1 (byte_eq (by rw [c]; rfl))
        have hs1 := Lib.hid (EnSo.skip HE.out (by rw [hkl]; intro c; injection c with c; exact c1 c))
        clear c1
        go_wp2_with (first | (go_at_call 20; (with_reducible refine (HD.out _).mono ?_); rintro e w1 ⟨rfl, b1⟩; obtain ⟨c1, f1⟩ := bcell b1; have z1 := b1.size; (try simp at z1); have d1a := fun o => c1 (w.heap.size) o (by first | omega | (simp; done) | (simp; omega)); have q1a := fun o => f1 (w.heap.size) o (by first | omega | (simp; done) | (simp; omega)); clear c1 f1) | (go_at_call 44; (with_reducible refine (H4.out _).mono ?_); rintro e w2 ⟨rfl, b2⟩; obtain ⟨c2, f2⟩ := bcell b2; have z2 := b2.size; (try simp at z2); have d2a := fun o => c2 (w.heap.size) o (by first | omega | (simp; done) | (simp; omega)); have q2a := fun o => f2 (w.heap.size) o (by first | omega | (simp; done) | (simp; omega)); clear c2 f2) | (go_at_call 45; (with_reducible refine (H6.out _).mono ?_); rintro e w3 ⟨rfl, b3⟩; obtain ⟨c3, f3⟩ := bcell b3; have z3 := b3.size; (try simp at z3); have d3a := fun o => c3 (w.heap.size) o (by first | omega | (simp; done) | (simp; omega)); have q3a := fun o => f3 (w.heap.size) o (by first | omega | (simp; done) | (simp; omega)); clear c3 f3) | (go_at_call 46; (with_reducible refine (HV.out _).mono ?_); rintro e w4 ⟨rfl, b4⟩; obtain ⟨c4, f4⟩ := bcell b4; have z4 := b4.size; (try simp at z4); have d4a := fun o => c4 (w.heap.size) o (by first | omega | (simp; done) | (simp; omega)); have q4a := fun o => f4 (w.heap.size) o (by first | omega | (simp; done) | (simp; omega)); clear c4 f4))
        go_roundw
        case rel =>
          refine ⟨k + 1, by go_num, by omega, hs1.out, ?_⟩
          refine hb.trans ?_
          (repeat (first | assumption | exact Below.refl _ _ | refine Below.setCell ?_ (by first | omega | (simp; done) | (simp; omega)) _ | refine Below.alloc ?_ (by first | omega | (simp; done) | (simp; omega)) _ | refine Below.drew ?_ | (refine Below.trans ?_ (Below.mono (by assumption) (by first | omega | (simp; done) | (simp; omega))))))
        case measure => simp [intOf]; omega
    · obtain rfl : k = s.size := by omega
      have hz : r = zeroE := by rw [← HR.out]; exact EnSo.done (by rw [hlen]; exact HE.out)
      unfold zeroE at hz
      subst hz
      go_wp2_with (first | (go_at_call 20; (with_reducible refine (HD.out _).mono ?_); rintro e w1 ⟨rfl, b1⟩; obtain ⟨c1, f1⟩ := bcell b1; have z1 := b1.size; (try simp at z1); have d1a := fun o => c1 (w.heap.size) o (by first | omega | (simp; done) | (simp; omega)); have q1a := fun o => f1 (w.heap.size) o (by first | omega | (simp; done) | (simp; omega)); clear c1 f1) | (go_at_call 44; (with_reducible refine (H4.out _).mono ?_); rintro e w2 ⟨rfl, b2⟩; obtain ⟨c2, f2⟩ := bcell b2; have z2 := b2.size; (try simp at z2); have d2a := fun o => c2 (w.heap.size) o (by first | omega | (simp; done) | (simp; omega)); have q2a := fun o => f2 (w.heap.size) o (by first | omega | (simp; done) | (simp; omega)); clear c2 f2) | (go_at_call 45; (with_reducible refine (H6.out _).mono ?_); rintro e w3 ⟨rfl, b3⟩; obtain ⟨c3, f3⟩ := bcell b3; have z3 := b3.size; (try simp at z3); have d3a := fun o => c3 (w.heap.size) o (by first | omega | (simp; done) | (simp; omega)); have q3a := fun o => f3 (w.heap.size) o (by first | omega | (simp; done) | (simp; omega)); clear c3 f3) | (go_at_call 46; (with_reducible refine (HV.out _).mono ?_); rintro e w4 ⟨rfl, b4⟩; obtain ⟨c4, f4⟩ := bcell b4; have z4 := b4.size; (try simp at z4); have d4a := fun o => c4 (w.heap.size) o (by first | omega | (simp; done) | (simp; omega)); have q4a := fun o => f4 (w.heap.size) o (by first | omega | (simp; done) | (simp; omega)); clear c4 f4))
      refine bodyPost_ret (v := .tuple #[.agg #[.bool false, .int .u64 0, .int .u64 0, .int .i64 0], .bool false]) (by simp [results, Tryz.results21, go_sem, *]) rfl ⟨rfl, ?_⟩
      (repeat (first | assumption | exact Below.refl _ _ | refine Below.setCell ?_ (by first | omega | (simp; done) | (simp; omega)) _ | refine Below.alloc ?_ (by first | omega | (simp; done) | (simp; omega)) _ | refine Below.drew ?_ | (refine Below.trans ?_ (Below.mono (by assumption) (by first | omega | (simp; done) | (simp; omega))))))
end Go.Proofs.YtnohkfbapibmdaaGreat
