/- Texts put together: BanP. No condition. -/
import Derived.Test.YtdmobgdgeiiicaaGreatRomgclnbxzt
namespace Go.Proofs.YtdmobgdgeiiicaaGreat
open Go.RowKit
set_option linter.unusedSimpArgs false
set_option linter.unusedVariables false

def GivesBa (w : World) (r : Ba × Bool) (e : Ending) (w' : World) : Prop := e = .returned (.tuple #[.agg #[.bool r.1.nt.ad.v6, .int .u64 r.1.nt.ad.hi, .int .u64 r.1.nt.ad.lo, .int .i64 r.1.nt.bits, .int .i64 r.1.till], .bool r.2]) ∧ Below w.heap.size w w'
/-- three parts that a callee has made -/
theorem gives_three {f : FuncId} {args : Array Value} {W : World} {x y z : List UInt8} (h : Calls Tryz.prog f args W (GivesStrs W [x, y, z])) :
    Calls Tryz.prog f args W fun e w' => ∃ (g cap : Nat), e = .returned (.slice (some ⟨g, 0, none⟩) 3 cap) ∧ g < w'.heap.size ∧ w'.cell? ⟨g, 0, none⟩ = some (.string (bs x)) ∧ w'.cell? ⟨g, 1, none⟩ = some (.string (bs y)) ∧ w'.cell? ⟨g, 2, none⟩ = some (.string (bs z)) ∧ Below W.heap.size W w' :=
  (gives_row (by simp) h).mono fun _ _ ⟨g, cap, _, _, h3, h4, h5, h6⟩ => ⟨g, cap, h3, h4, h5 0 (by simp), h5 1 (by simp), h5 2 (by simp), h6⟩
theorem gives_len {f : FuncId} {args : Array Value} {W : World} {l : List (List UInt8)} (hne : l ≠ []) (h : Calls Tryz.prog f args W (GivesStrs W l)) :
    Calls Tryz.prog f args W fun e w' => ∃ (g cap : Nat), e = .returned (.slice (some ⟨g, 0, none⟩) l.length cap) ∧ g < w'.heap.size ∧ Below W.heap.size W w' :=
  (gives_row hne h).mono fun _ _ ⟨g, cap, _, _, h3, h4, _, h6⟩ => ⟨g, cap, h3, h4, h6⟩
theorem baCand_bad {p : Nt × Bool} {q : Int × Bool} {l : List UInt8} (h : ¬ (p.2 = true ∧ q.2 = true ∧ baText ⟨p.1, q.1⟩ = l)) : baCand p q l = zeroB := if_neg h
theorem baCand_hit {p : Nt × Bool} {q : Int × Bool} {l : List UInt8} (h : p.2 = true ∧ q.2 = true ∧ baText ⟨p.1, q.1⟩ = l) : baCand p q l = (⟨p.1, q.1⟩, true) := if_pos h
set_option maxRecDepth 100000 in
set_option maxHeartbeats 8000000 in
theorem baParse_any (s : ByteArray) (w : World) (hs : s.size ≤ 4000000000) (hc : Cpu w) : Calls Tryz.prog 25 #[.string s] w (GivesBa w (baParse s.data.toList)) := by
  have HC := Lib.hid hc; clear hc
  rw [← baCode_eq]
  unfold GivesBa
  have hsp := fun w => split_any s 32 w (by omega)
  have hpl := fun x (hx : x ∈ splitL 32 s.data.toList) => splitL_part_len 32 s.data.toList x hx
  have hne := splitL_ne 32 s.data.toList
  rw [len_data] at hpl
  generalize splitL 32 s.data.toList = S at *
  by_cases h3 : S.length = 3
  · obtain ⟨x, u, y, rfl⟩ : ∃ x u y, S = [x, u, y] := by
      match S, h3 with
      | [x, u, y], _ => exact ⟨x, u, y, rfl⟩
    have HSP := Lib.hid (fun w => gives_three (hsp w))
    have lx := hpl x (by simp)
    have ly := hpl y (by simp)
    clear hsp hpl hne h3
    have hN := fun w hc => ntParse_any (bs x) w (by rw [bs_size]; omega) hc
    have hD := fun w => decParse_any (bs y) 1099511627776 w (by rw [bs_size]; omega)
    rw [bs_data] at hN hD
    unfold GivesNt at hN
    have hf := (ntParse_ok x).1
    have hbc : baCode [x, u, y] s.data.toList = if u = untilL then baCand (ntParse x) (decParse y 1099511627776) s.data.toList else zeroB := by
      unfold baCode; simp
    rw [hbc]
    clear hbc lx ly
    generalize ntParse x = p at *
    generalize decParse y 1099511627776 = q at *
    obtain ⟨n, ok⟩ := p
    obtain ⟨t, is⟩ := q
    simp only at hN hD hf
    have HN := Lib.hid hN; have HD := Lib.hid hD; clear hN hD
    by_cases hu : u = untilL
    · have hq : ((bs u).toList == [117, 110, 116, 105, 108]) = true := by rw [bs_toL, hu]; rfl
      rw [if_pos hu]
      clear hu
      cases ok with
      | false =>
        rw [baCand_bad (by simp)]
        unfold zeroB
        go_enter Tryz.func25, Tryz.ntmps25
        go_wp2_with (first | (go_at_call 24; refine (HSP.out _).mono ?_; rintro e w1 ⟨g, cap, rfl, hg, r0, r1, r2, b1⟩; obtain ⟨c1, f1⟩ := bcell b1; have z1 := b1.size; (try simp at z1); have l1 : w.heap.size < w1.heap.size := (by omega); have d1 := fun o => c1 (w.heap.size) o (by first | omega | (simp; done) | (simp; omega)); have q1 := fun o => f1 (w.heap.size) o (by first | omega | (simp; done) | (simp; omega)); clear c1 f1) | (go_at_call 44; (with_reducible refine (HN.out _ (HC.out.below (by (repeat (first | with_reducible assumption | with_reducible exact Below.refl _ _ | with_reducible refine Below.setCell ?_ (by first | omega | (simp; done) | (simp; omega)) _ | with_reducible refine Below.alloc ?_ (by first | omega | (simp; done) | (simp; omega)) _ | with_reducible refine Below.drew ?_ | (with_reducible refine Below.trans ?_ (Below.mono (by with_reducible assumption) (by first | omega | (simp; done) | (simp; omega)))) | (refine Below.trans ?_ (Below.mono (by assumption) (by first | omega | (simp; done) | (simp; omega))))))))).mono ?_); rintro e w2 ⟨rfl, b2⟩; obtain ⟨c2, f2⟩ := bcell b2; have z2 := b2.size; (try simp at z2); have l2a : w.heap.size < w2.heap.size := (by omega); have n2a := Nat.ne_of_lt l2a; have d2a := fun o => c2 (w.heap.size) o (by first | omega | (simp; done) | (simp; omega)); have q2a := fun o => f2 (w.heap.size) o (by first | omega | (simp; done) | (simp; omega)); have l2b : g < w2.heap.size := (by omega); have n2b := Nat.ne_of_lt l2b; have d2b := fun o => c2 (g) o (by first | omega | (simp; done) | (simp; omega)); clear c2 f2) | (go_at_call 45; (with_reducible refine (HD.out _).mono ?_); rintro e w3 ⟨rfl, rfl⟩) | (go_at_call 18; (with_reducible refine (HT.out _).mono ?_); rintro e w4 ⟨rfl, b4⟩; obtain ⟨c4, f4⟩ := bcell b4; have z4 := b4.size; (try simp at z4); have d4a := fun o => (c4 w.heap.size o (by first | omega | (simp; done) | (simp; omega))).trans ((World.cell?_alloc_past _ _ _ (by simp; omega)).trans ((World.cell?_alloc_past _ _ _ (by omega)).trans ((d2a o).trans (d1 o)))); have q4a := fun o => f4 (w.heap.size) o (by first | omega | (simp; done) | (simp; omega)); have d4b := fun o => c4 (w2.heap.size + 1) o (by first | omega | (simp; done) | (simp; omega)); clear c4 f4))
        refine bodyPost_ret (v := .tuple #[.agg #[.bool false, .int .u64 0, .int .u64 0, .int .i64 0, .int .i64 0], .bool false]) (by simp [results, Tryz.results25, go_sem, *]) rfl ⟨rfl, ?_⟩
        (repeat (first | with_reducible assumption | with_reducible exact Below.refl _ _ | with_reducible refine Below.setCell ?_ (by first | omega | (simp; done) | (simp; omega)) _ | with_reducible refine Below.alloc ?_ (by first | omega | (simp; done) | (simp; omega)) _ | with_reducible refine Below.drew ?_ | (with_reducible refine Below.trans ?_ (Below.mono (by with_reducible assumption) (by first | omega | (simp; done) | (simp; omega)))) | (refine Below.trans ?_ (Below.mono (by assumption) (by first | omega | (simp; done) | (simp; omega))))))
      | true =>
      cases is with
      | false =>
        rw [baCand_bad (by simp)]
        unfold zeroB
        go_enter Tryz.func25, Tryz.ntmps25
        go_wp2_with (first | (go_at_call 24; refine (HSP.out _).mono ?_; rintro e w1 ⟨g, cap, rfl, hg, r0, r1, r2, b1⟩; obtain ⟨c1, f1⟩ := bcell b1; have z1 := b1.size; (try simp at z1); have l1 : w.heap.size < w1.heap.size := (by omega); have d1 := fun o => c1 (w.heap.size) o (by first | omega | (simp; done) | (simp; omega)); have q1 := fun o => f1 (w.heap.size) o (by first | omega | (simp; done) | (simp; omega)); clear c1 f1) | (go_at_call 44; (with_reducible refine (HN.out _ (HC.out.below (by (repeat (first | with_reducible assumption | with_reducible exact Below.refl _ _ | with_reducible refine Below.setCell ?_ (by first | omega | (simp; done) | (simp; omega)) _ | with_reducible refine Below.alloc ?_ (by first | omega | (simp; done) | (simp; omega)) _ | with_reducible refine Below.drew ?_ | (with_reducible refine Below.trans ?_ (Below.mono (by with_reducible assumption) (by first | omega | (simp; done) | (simp; omega)))) | (refine Below.trans ?_ (Below.mono (by assumption) (by first | omega | (simp; done) | (simp; omega))))))))).mono ?_); rintro e w2 ⟨rfl, b2⟩; obtain ⟨c2, f2⟩ := bcell b2; have z2 := b2.size; (try simp at z2); have l2a : w.heap.size < w2.heap.size := (by omega); have n2a := Nat.ne_of_lt l2a; have d2a := fun o => c2 (w.heap.size) o (by first | omega | (simp; done) | (simp; omega)); have q2a := fun o => f2 (w.heap.size) o (by first | omega | (simp; done) | (simp; omega)); have l2b : g < w2.heap.size := (by omega); have n2b := Nat.ne_of_lt l2b; have d2b := fun o => c2 (g) o (by first | omega | (simp; done) | (simp; omega)); clear c2 f2) | (go_at_call 45; (with_reducible refine (HD.out _).mono ?_); rintro e w3 ⟨rfl, rfl⟩) | (go_at_call 18; (with_reducible refine (HT.out _).mono ?_); rintro e w4 ⟨rfl, b4⟩; obtain ⟨c4, f4⟩ := bcell b4; have z4 := b4.size; (try simp at z4); have d4a := fun o => (c4 w.heap.size o (by first | omega | (simp; done) | (simp; omega))).trans ((World.cell?_alloc_past _ _ _ (by simp; omega)).trans ((World.cell?_alloc_past _ _ _ (by omega)).trans ((d2a o).trans (d1 o)))); have q4a := fun o => f4 (w.heap.size) o (by first | omega | (simp; done) | (simp; omega)); have d4b := fun o => c4 (w2.heap.size + 1) o (by first | omega | (simp; done) | (simp; omega)); clear c4 f4))
        refine bodyPost_ret (v := .tuple #[.agg #[.bool false, .int .u64 0, .int .u64 0, .int .i64 0, .int .i64 0], .bool false]) (by simp [results, Tryz.results25, go_sem, *]) rfl ⟨rfl, ?_⟩
        (repeat (first | with_reducible assumption | with_reducible exact Below.refl _ _ | with_reducible refine Below.setCell ?_ (by first | omega | (simp; done) | (simp; omega)) _ | with_reducible refine Below.alloc ?_ (by first | omega | (simp; done) | (simp; omega)) _ | with_reducible refine Below.drew ?_ | (with_reducible refine Below.trans ?_ (Below.mono (by with_reducible assumption) (by first | omega | (simp; done) | (simp; omega)))) | (refine Below.trans ?_ (Below.mono (by assumption) (by first | omega | (simp; done) | (simp; omega))))))
      | true =>
        have HT := Lib.hid (fun w => baText_any ⟨n, t⟩ hf w)
        by_cases ht : baText ⟨n, t⟩ = s.data.toList
        · rw [baCand_hit ⟨rfl, rfl, ht⟩]
          have q2 : ((bs (baText ⟨n, t⟩)).toList == s.toList) = true := by rw [bs_toL, toL, ht]; simp
          clear ht hf
          generalize baText ⟨n, t⟩ = tx at *
          go_enter Tryz.func25, Tryz.ntmps25
          go_wp2_with (first | (go_at_call 24; refine (HSP.out _).mono ?_; rintro e w1 ⟨g, cap, rfl, hg, r0, r1, r2, b1⟩; obtain ⟨c1, f1⟩ := bcell b1; have z1 := b1.size; (try simp at z1); have l1 : w.heap.size < w1.heap.size := (by omega); have d1 := fun o => c1 (w.heap.size) o (by first | omega | (simp; done) | (simp; omega)); have q1 := fun o => f1 (w.heap.size) o (by first | omega | (simp; done) | (simp; omega)); clear c1 f1) | (go_at_call 44; (with_reducible refine (HN.out _ (HC.out.below (by (repeat (first | with_reducible assumption | with_reducible exact Below.refl _ _ | with_reducible refine Below.setCell ?_ (by first | omega | (simp; done) | (simp; omega)) _ | with_reducible refine Below.alloc ?_ (by first | omega | (simp; done) | (simp; omega)) _ | with_reducible refine Below.drew ?_ | (with_reducible refine Below.trans ?_ (Below.mono (by with_reducible assumption) (by first | omega | (simp; done) | (simp; omega)))) | (refine Below.trans ?_ (Below.mono (by assumption) (by first | omega | (simp; done) | (simp; omega))))))))).mono ?_); rintro e w2 ⟨rfl, b2⟩; obtain ⟨c2, f2⟩ := bcell b2; have z2 := b2.size; (try simp at z2); have l2a : w.heap.size < w2.heap.size := (by omega); have n2a := Nat.ne_of_lt l2a; have d2a := fun o => c2 (w.heap.size) o (by first | omega | (simp; done) | (simp; omega)); have q2a := fun o => f2 (w.heap.size) o (by first | omega | (simp; done) | (simp; omega)); have l2b : g < w2.heap.size := (by omega); have n2b := Nat.ne_of_lt l2b; have d2b := fun o => c2 (g) o (by first | omega | (simp; done) | (simp; omega)); clear c2 f2) | (go_at_call 45; (with_reducible refine (HD.out _).mono ?_); rintro e w3 ⟨rfl, rfl⟩) | (go_at_call 18; (with_reducible refine (HT.out _).mono ?_); rintro e w4 ⟨rfl, b4⟩; obtain ⟨c4, f4⟩ := bcell b4; have z4 := b4.size; (try simp at z4); have d4a := fun o => (c4 w.heap.size o (by first | omega | (simp; done) | (simp; omega))).trans ((World.cell?_alloc_past _ _ _ (by simp; omega)).trans ((World.cell?_alloc_past _ _ _ (by omega)).trans ((d2a o).trans (d1 o)))); have q4a := fun o => f4 (w.heap.size) o (by first | omega | (simp; done) | (simp; omega)); have d4b := fun o => c4 (w2.heap.size + 1) o (by first | omega | (simp; done) | (simp; omega)); clear c4 f4))
          refine bodyPost_named fun W9 h9 => ?_
          have hB9 : BlockIs W9 w.heap.size [.bool n.ad.v6, .int .u64 n.ad.hi, .int .u64 n.ad.lo, .int .i64 n.bits, .int .i64 t] 38 := by subst h9; exact ((((((((((BlockIs.new w [.bool false, .int .u64 0, .int .u64 0, .int .i64 0, .int .i64 0] 38).below b1).below b2).alloc _).alloc _).below b4).set 0 _).set 1 _).set 2 _).set 3 _).set 4 _
          have e90 := hB9.cell (i := 0) rfl
          have e91 := hB9.cell (i := 1) rfl
          have e92 := hB9.cell (i := 2) rfl
          have e93 := hB9.cell (i := 3) rfl
          have e94 := hB9.cell (i := 4) rfl
          have b9 : Below w.heap.size w W9 := by subst h9; (repeat (first | with_reducible assumption | with_reducible exact Below.refl _ _ | with_reducible refine Below.setCell ?_ (by first | omega | (simp; done) | (simp; omega)) _ | with_reducible refine Below.alloc ?_ (by first | omega | (simp; done) | (simp; omega)) _ | with_reducible refine Below.drew ?_ | (with_reducible refine Below.trans ?_ (Below.mono (by with_reducible assumption) (by first | omega | (simp; done) | (simp; omega)))) | (refine Below.trans ?_ (Below.mono (by assumption) (by first | omega | (simp; done) | (simp; omega))))))
          clear h9 hB9
          exact bodyPost_ret (v := .tuple #[.agg #[.bool n.ad.v6, .int .u64 n.ad.hi, .int .u64 n.ad.lo, .int .i64 n.bits, .int .i64 t], .bool true]) (by simp [results, Tryz.results25, go_sem, e90, e91, e92, e93, e94]) rfl ⟨rfl, b9⟩
        · rw [baCand_bad (by rintro ⟨_, _, c⟩; exact ht c)]
          have q2 : ((bs (baText ⟨n, t⟩)).toList == s.toList) = false := by rw [bs_toL, toL]; simpa using ht
          unfold zeroB
          clear ht hf
          generalize baText ⟨n, t⟩ = tx at *
          go_enter Tryz.func25, Tryz.ntmps25
          go_wp2_with (first | (go_at_call 24; refine (HSP.out _).mono ?_; rintro e w1 ⟨g, cap, rfl, hg, r0, r1, r2, b1⟩; obtain ⟨c1, f1⟩ := bcell b1; have z1 := b1.size; (try simp at z1); have l1 : w.heap.size < w1.heap.size := (by omega); have d1 := fun o => c1 (w.heap.size) o (by first | omega | (simp; done) | (simp; omega)); have q1 := fun o => f1 (w.heap.size) o (by first | omega | (simp; done) | (simp; omega)); clear c1 f1) | (go_at_call 44; (with_reducible refine (HN.out _ (HC.out.below (by (repeat (first | with_reducible assumption | with_reducible exact Below.refl _ _ | with_reducible refine Below.setCell ?_ (by first | omega | (simp; done) | (simp; omega)) _ | with_reducible refine Below.alloc ?_ (by first | omega | (simp; done) | (simp; omega)) _ | with_reducible refine Below.drew ?_ | (with_reducible refine Below.trans ?_ (Below.mono (by with_reducible assumption) (by first | omega | (simp; done) | (simp; omega)))) | (refine Below.trans ?_ (Below.mono (by assumption) (by first | omega | (simp; done) | (simp; omega))))))))).mono ?_); rintro e w2 ⟨rfl, b2⟩; obtain ⟨c2, f2⟩ := bcell b2; have z2 := b2.size; (try simp at z2); have l2a : w.heap.size < w2.heap.size := (by omega); have n2a := Nat.ne_of_lt l2a; have d2a := fun o => c2 (w.heap.size) o (by first | omega | (simp; done) | (simp; omega)); have q2a := fun o => f2 (w.heap.size) o (by first | omega | (simp; done) | (simp; omega)); have l2b : g < w2.heap.size := (by omega); have n2b := Nat.ne_of_lt l2b; have d2b := fun o => c2 (g) o (by first | omega | (simp; done) | (simp; omega)); clear c2 f2) | (go_at_call 45; (with_reducible refine (HD.out _).mono ?_); rintro e w3 ⟨rfl, rfl⟩) | (go_at_call 18; (with_reducible refine (HT.out _).mono ?_); rintro e w4 ⟨rfl, b4⟩; obtain ⟨c4, f4⟩ := bcell b4; have z4 := b4.size; (try simp at z4); have d4a := fun o => (c4 w.heap.size o (by first | omega | (simp; done) | (simp; omega))).trans ((World.cell?_alloc_past _ _ _ (by simp; omega)).trans ((World.cell?_alloc_past _ _ _ (by omega)).trans ((d2a o).trans (d1 o)))); have q4a := fun o => f4 (w.heap.size) o (by first | omega | (simp; done) | (simp; omega)); have d4b := fun o => c4 (w2.heap.size + 1) o (by first | omega | (simp; done) | (simp; omega)); clear c4 f4))
          refine bodyPost_named fun W9 h9 => ?_
          have hB9 : BlockIs W9 w.heap.size [.bool false, .int .u64 0, .int .u64 0, .int .i64 0, .int .i64 0] 38 := by subst h9; exact ((((((((((BlockIs.new w [.bool false, .int .u64 0, .int .u64 0, .int .i64 0, .int .i64 0] 38).below b1).below b2).alloc _).alloc _).below b4).set 0 _).set 1 _).set 2 _).set 3 _).set 4 _
          have e90 := hB9.cell (i := 0) rfl
          have e91 := hB9.cell (i := 1) rfl
          have e92 := hB9.cell (i := 2) rfl
          have e93 := hB9.cell (i := 3) rfl
          have e94 := hB9.cell (i := 4) rfl
          have b9 : Below w.heap.size w W9 := by subst h9; (repeat (first | with_reducible assumption | with_reducible exact Below.refl _ _ | with_reducible refine Below.setCell ?_ (by first | omega | (simp; done) | (simp; omega)) _ | with_reducible refine Below.alloc ?_ (by first | omega | (simp; done) | (simp; omega)) _ | with_reducible refine Below.drew ?_ | (with_reducible refine Below.trans ?_ (Below.mono (by with_reducible assumption) (by first | omega | (simp; done) | (simp; omega)))) | (refine Below.trans ?_ (Below.mono (by assumption) (by first | omega | (simp; done) | (simp; omega))))))
          clear h9 hB9
          exact bodyPost_ret (v := .tuple #[.agg #[.bool false, .int .u64 0, .int .u64 0, .int .i64 0, .int .i64 0], .bool false]) (by simp [results, Tryz.results25, go_sem, e90, e91, e92, e93, e94]) rfl ⟨rfl, b9⟩
    · have hq : ((bs u).toList == [117, 110, 116, 105, 108]) = false := by rw [bs_toL]; simpa [untilL] using hu
      rw [if_neg hu]
      unfold zeroB
      clear hu
      go_enter Tryz.func25, Tryz.ntmps25
      go_wp2_with (first | (go_at_call 24; refine (HSP.out _).mono ?_; rintro e w1 ⟨g, cap, rfl, hg, r0, r1, r2, b1⟩; obtain ⟨c1, f1⟩ := bcell b1; have z1 := b1.size; (try simp at z1); have l1 : w.heap.size < w1.heap.size := (by omega); have d1 := fun o => c1 (w.heap.size) o (by first | omega | (simp; done) | (simp; omega)); have q1 := fun o => f1 (w.heap.size) o (by first | omega | (simp; done) | (simp; omega)); clear c1 f1) | (go_at_call 44; (with_reducible refine (HN.out _ (HC.out.below (by (repeat (first | with_reducible assumption | with_reducible exact Below.refl _ _ | with_reducible refine Below.setCell ?_ (by first | omega | (simp; done) | (simp; omega)) _ | with_reducible refine Below.alloc ?_ (by first | omega | (simp; done) | (simp; omega)) _ | with_reducible refine Below.drew ?_ | (with_reducible refine Below.trans ?_ (Below.mono (by with_reducible assumption) (by first | omega | (simp; done) | (simp; omega)))) | (refine Below.trans ?_ (Below.mono (by assumption) (by first | omega | (simp; done) | (simp; omega))))))))).mono ?_); rintro e w2 ⟨rfl, b2⟩; obtain ⟨c2, f2⟩ := bcell b2; have z2 := b2.size; (try simp at z2); have l2a : w.heap.size < w2.heap.size := (by omega); have n2a := Nat.ne_of_lt l2a; have d2a := fun o => c2 (w.heap.size) o (by first | omega | (simp; done) | (simp; omega)); have q2a := fun o => f2 (w.heap.size) o (by first | omega | (simp; done) | (simp; omega)); have l2b : g < w2.heap.size := (by omega); have n2b := Nat.ne_of_lt l2b; have d2b := fun o => c2 (g) o (by first | omega | (simp; done) | (simp; omega)); clear c2 f2) | (go_at_call 45; (with_reducible refine (HD.out _).mono ?_); rintro e w3 ⟨rfl, rfl⟩) | (go_at_call 18; (with_reducible refine (HT.out _).mono ?_); rintro e w4 ⟨rfl, b4⟩; obtain ⟨c4, f4⟩ := bcell b4; have z4 := b4.size; (try simp at z4); have d4a := fun o => (c4 w.heap.size o (by first | omega | (simp; done) | (simp; omega))).trans ((World.cell?_alloc_past _ _ _ (by simp; omega)).trans ((World.cell?_alloc_past _ _ _ (by omega)).trans ((d2a o).trans (d1 o)))); have q4a := fun o => f4 (w.heap.size) o (by first | omega | (simp; done) | (simp; omega)); have d4b := fun o => c4 (w2.heap.size + 1) o (by first | omega | (simp; done) | (simp; omega)); clear c4 f4))
      refine bodyPost_ret (v := .tuple #[.agg #[.bool false, .int .u64 0, .int .u64 0, .int .i64 0, .int .i64 0], .bool false]) (by simp [results, Tryz.results25, go_sem, *]) rfl ⟨rfl, ?_⟩
      (repeat (first | with_reducible assumption | with_reducible exact Below.refl _ _ | with_reducible refine Below.setCell ?_ (by first | omega | (simp; done) | (simp; omega)) _ | with_reducible refine Below.alloc ?_ (by first | omega | (simp; done) | (simp; omega)) _ | with_reducible refine Below.drew ?_ | (with_reducible refine Below.trans ?_ (Below.mono (by with_reducible assumption) (by first | omega | (simp; done) | (simp; omega)))) | (refine Below.trans ?_ (Below.mono (by assumption) (by first | omega | (simp; done) | (simp; omega))))))
  · have HSP := Lib.hid (fun w => gives_len hne (hsp w))
    have hq : ((S.length : Int) != 3) = true := by rw [bne_iff_ne]; omega
    have hz : baCode S s.data.toList = zeroB := if_neg (fun c => h3 c.1)
    rw [hz]
    unfold zeroB
    clear hsp hpl hne h3 hz
    go_enter Tryz.func25, Tryz.ntmps25
    go_wp2_with (go_at_call 24; refine (HSP.out _).mono ?_; rintro e w1 ⟨g, cap, rfl, hg, b1⟩; obtain ⟨c1, f1⟩ := bcell b1; have z1 := b1.size; (try simp at z1); have l1 : w.heap.size < w1.heap.size := (by omega); have d1 := fun o => c1 (w.heap.size) o (by first | omega | (simp; done) | (simp; omega)); have q1 := fun o => f1 (w.heap.size) o (by first | omega | (simp; done) | (simp; omega)); clear c1 f1)
    refine bodyPost_ret (v := .tuple #[.agg #[.bool false, .int .u64 0, .int .u64 0, .int .i64 0, .int .i64 0], .bool false]) (by simp [results, Tryz.results25, go_sem, *]) rfl ⟨rfl, ?_⟩
    (repeat (first | with_reducible assumption | with_reducible exact Below.refl _ _ | with_reducible refine Below.setCell ?_ (by first | omega | (simp; done) | (simp; omega)) _ | with_reducible refine Below.alloc ?_ (by first | omega | (simp; done) | (simp; omega)) _ | with_reducible refine Below.drew ?_ | (with_reducible refine Below.trans ?_ (Below.mono (by with_reducible assumption) (by first | omega | (simp; done) | (simp; omega)))) | (refine Below.trans ?_ (Below.mono (by assumption) (by first | omega | (simp; done) | (simp; omega))))))
end Go.Proofs.YtdmobgdgeiiicaaGreat
