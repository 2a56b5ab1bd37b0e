/- Texts put together: CallC. No condition. -/
import Derived.Test.YtnohkfbapibmdaaGreatRtsyptgbzhc
import Derived.Test.YtnohkfbapibmdaaGreatRtcfsoujgbz
import Derived.Test.YtnohkfbapibmdaaGreatRrekxwfrmvm
namespace Go.Proofs.YtnohkfbapibmdaaGreat
open Go.RowKit
set_option linter.unusedSimpArgs false
set_option linter.unusedVariables false

theorem owns_ne_ty {w : World} {base n U size : Nat} {v : Value} {xs us : List Value} {e T : TypeId} (hne : e ≠ T) (h : w.ownsRow base e size v n xs) (hb : BlockIs w U us T) : v.ownBlock ≠ some U := by
  rcases h.2 with ⟨rfl, _⟩ | ⟨g, cap, cur, rfl, hg, hh, _⟩
  · simp [Value.ownBlock]
  · simp only [Value.ownBlock]
    intro e
    injection e with e
    subst e
    unfold BlockIs at hb
    rw [hh] at hb
    injection hb with hb
    injection hb with _ hb
    exact hne hb
theorem blk_belowC {w w' : World} {B n : Nat} {arr : List Value} {T : TypeId} (h : BlockIs w B arr T) (hb : Below n w w') (hlt : B < n) : BlockIs w' B arr T := by
  have := hb.block B hlt; unfold BlockIs at *; rw [this]; exact h
theorem blk_grownC {w w' : World} {U : Nat} {us : List Value} {T : TypeId} {o : Option Nat} (h : BlockIs w U us T) (hg : w.grownBy w' o) (ho : o ≠ some U) : BlockIs w' U us T := by
  unfold BlockIs at *
  rw [hg.block U (BlockIs.lt (show BlockIs w U us T from h)) (fun e => ho e.symm)]; exact h
theorem PartsAt.grown {w w' : World} {a : Option Addr} {c : Nat} {L : List Nat} {base n : Nat} {v : Value} {xs : List Value} (h : PartsAt w a c L) (hO : w.ownsRow base 9 1 v n xs) (hg : w.grownBy w' v.ownBlock) : PartsAt w' a c L := fun h0 => by
  obtain ⟨B, h1, h2, h3⟩ := h h0
  exact ⟨B, h1, h2, blk_grownC h3 hg (owns_ne_ty (by decide) hO h3)⟩
theorem all_of {L : List Nat} {f : Nat → Bool} (h : ∀ j q, j < L.length → L[j]? = some q → f q = true) : L.all f = true := by
  rw [List.all_eq_true]
  intro x hx
  obtain ⟨j, hj⟩ := List.mem_iff_getElem?.1 hx
  exact h j x (List.getElem?_eq_some_iff.1 hj).1 hj
theorem all_no {L : List Nat} {f : Nat → Bool} {k q : Nat} (h : L[k]? = some q) (hf : f q = false) : L.all f = false := by
  rw [List.all_eq_false]
  exact ⟨q, List.mem_of_getElem? h, by rw [hf]; simp⟩
theorem part_cell {w : World} {B : Nat} {L : List Nat} (h : BlockIs w B (L.map ptV) 43) {k p : Nat} (hp : L[k]? = some p) : w.cell? ⟨B, k, none⟩ = some (.int .i64 p) := h.cell (i := k) (by rw [List.getElem?_map, hp]; rfl)
set_option maxRecDepth 100000 in
set_option maxHeartbeats 4000000 in
theorem clRight_any (c : Cl) (hf : c.fits) (w : World) : Calls Tryz.prog 7 #[.agg #[.int .i64 c.kind, .bool c.en.ad.v6, .int .u64 c.en.ad.hi, .int .u64 c.en.ad.lo, .int .i64 c.en.port, .bool c.nt.ad.v6, .int .u64 c.nt.ad.hi, .int .u64 c.nt.ad.lo, .int .i64 c.nt.bits, .int .i64 c.now, .int .i64 c.num, .bool c.good]] w fun e w' => e = .returned (.bool (clRight c)) ∧ Below w.heap.size w w' := by
  have HN := Lib.hid (fun w => codeCall_any c.kind w)
  unfold clRight
  by_cases hn : nameAt callN c.kind = []
  · have q : ((bs (nameAt callN c.kind)).toList == []) = true := by rw [bs_toL, hn]; rfl
    rw [decide_eq_false (fun h => h hn), Bool.false_and]
    clear hn hf
    generalize nameAt callN c.kind = nm at *
    go_enter Tryz.func7, Tryz.ntmps7
    go_wp2_with (go_at_call 24; (with_reducible refine (HN.out _).mono ?_); rintro e w1 ⟨rfl, b1⟩; obtain ⟨c1, f1⟩ := bcell b1; have z1 := b1.size; (try simp at z1); have d1a := fun o => c1 (w.heap.size) o (by first | omega | (simp; done) | (simp; omega)); clear c1 f1)
    go_ret
    refine ⟨rfl, ?_⟩
    (repeat (first | with_reducible assumption | with_reducible exact Below.refl _ _ | with_reducible refine Below.setCell ?_ (by first | omega | (simp; done) | (simp; omega)) _ | with_reducible refine Below.alloc ?_ (by first | omega | (simp; done) | (simp; omega)) _ | with_reducible refine Below.drew ?_ | (with_reducible refine Below.trans ?_ (Below.mono (by with_reducible assumption) (by first | omega | (simp; done) | (simp; omega)))) | (refine Below.trans ?_ (Below.mono (by assumption) (by first | omega | (simp; done) | (simp; omega))))))
  · have q : ((bs (nameAt callN c.kind)).toList == []) = false := by rw [bs_toL]; simpa using hn
    have HP := Lib.hid (fun w => parts_any33 c.kind w)
    have HR := Lib.hid (fun p (hp : p ∈ clParts c.kind) w => right1_any c hf p (parts_le5 _ p hp) w)
    rw [decide_eq_true hn, Bool.true_and]
    clear hn hf
    have hL5 : (clParts c.kind).length ≤ 4 := by unfold clParts; repeat' split
                                                 all_goals decide
    generalize nameAt callN c.kind = nm at *
    generalize clParts c.kind = L at *
    have HBk : Hid (BlockIs (w.alloc (.cells #[.int .i64 c.kind, .bool c.en.ad.v6, .int .u64 c.en.ad.hi, .int .u64 c.en.ad.lo, .int .i64 c.en.port, .bool c.nt.ad.v6, .int .u64 c.nt.ad.hi, .int .u64 c.nt.ad.lo, .int .i64 c.nt.bits, .int .i64 c.now, .int .i64 c.num, .bool c.good] 30)) w.heap.size [.int .i64 c.kind, .bool c.en.ad.v6, .int .u64 c.en.ad.hi, .int .u64 c.en.ad.lo, .int .i64 c.en.port, .bool c.nt.ad.v6, .int .u64 c.nt.ad.hi, .int .u64 c.nt.ad.lo, .int .i64 c.nt.bits, .int .i64 c.now, .int .i64 c.num, .bool c.good] 30) := BlockIs.new w [.int .i64 c.kind, .bool c.en.ad.v6, .int .u64 c.en.ad.hi, .int .u64 c.en.ad.lo, .int .i64 c.en.port, .bool c.nt.ad.v6, .int .u64 c.nt.ad.hi, .int .u64 c.nt.ad.lo, .int .i64 c.nt.bits, .int .i64 c.now, .int .i64 c.num, .bool c.good] _
    go_enter Tryz.func7, Tryz.ntmps7
    go_wp2_with (first | (go_at_call 24; (with_reducible refine (HN.out _).mono ?_); rintro e w1 ⟨rfl, b1⟩; obtain ⟨c1, f1⟩ := bcell b1; have z1 := b1.size; (try simp at z1); have d1a := fun o => c1 (w.heap.size) o (by first | omega | (simp; done) | (simp; omega)); clear c1 f1) | (go_at_call 15; (with_reducible refine (HP.out _).mono ?_); rintro e w2 ⟨a, cc, rfl, hpa, b2⟩; have HPA := Lib.hid hpa; clear hpa; have z2 := b2.size; (try simp at z2)))
    go_name_world WWx hWWx
    have bwx : Below w.heap.size w WWx := by subst hWWx; (repeat (first | with_reducible assumption | with_reducible exact Below.refl _ _ | with_reducible refine Below.setCell ?_ (by first | omega | (simp; done) | (simp; omega)) _ | with_reducible refine Below.alloc ?_ (by first | omega | (simp; done) | (simp; omega)) _ | with_reducible refine Below.drew ?_ | (with_reducible refine Below.trans ?_ (Below.mono (by with_reducible assumption) (by first | omega | (simp; done) | (simp; omega)))) | (refine Below.trans ?_ (Below.mono (by assumption) (by first | omega | (simp; done) | (simp; omega))))))
    have hB : Hid (BlockIs WWx w.heap.size [.int .i64 c.kind, .bool c.en.ad.v6, .int .u64 c.en.ad.hi, .int .u64 c.en.ad.lo, .int .i64 c.en.port, .bool c.nt.ad.v6, .int .u64 c.nt.ad.hi, .int .u64 c.nt.ad.lo, .int .i64 c.nt.bits, .int .i64 c.now, .int .i64 c.num, .bool c.good] 30) := by subst hWWx; exact (HBk.out.below b1).below b2
    have hQ : Hid (PartsAt WWx a cc L) := by subst hWWx; exact HPA.out
    clear hWWx HPA HBk
    go_loopw [4, 13] (fun _ i wr => ∃ k : Nat, k ≤ L.length ∧ i = .int .i64 k ∧ Hid (Below WWx.heap.size WWx wr) ∧ Hid (∀ j q, j < k → L[j]? = some q → clRight1 c q = true)) (fun _ i _ => L.length - (intOf i).toNat)
    case atStart => exact ⟨0, Nat.zero_le _, rfl, Below.refl _ _, fun j q hj => absurd hj (Nat.not_lt_zero _)⟩
    case round =>
      obtain ⟨k, hk, rfl, HB, HA⟩ := hrel
      have zr := HB.out.size
      have zx := bwx.size
      have bww : Hid (Below w.heap.size w wr) := bwx.trans (HB.out.mono zx)
      by_cases hlt : k < L.length
      · obtain ⟨p, hp⟩ : ∃ p, L[k]? = some p := ⟨_, List.getElem?_eq_getElem hlt⟩
        obtain ⟨B, rfl, hcc, hK⟩ := hQ.out (by omega)
        have x0 := part_cell (hK.below HB.out) hp
        have hKl := hK.lt
        have hX := fun w => HR.out p (List.mem_of_getElem? hp) w
        unfold ptV at hX
        have hBr := hB.out.below HB.out
        have c0 := hBr.cell (i := 0) rfl
        have c1 := hBr.cell (i := 1) rfl
        have c2 := hBr.cell (i := 2) rfl
        have c3 := hBr.cell (i := 3) rfl
        have c4 := hBr.cell (i := 4) rfl
        have c5 := hBr.cell (i := 5) rfl
        have c6 := hBr.cell (i := 6) rfl
        have c7 := hBr.cell (i := 7) rfl
        have c8 := hBr.cell (i := 8) rfl
        have c9 := hBr.cell (i := 9) rfl
        have c10 := hBr.cell (i := 10) rfl
        have c11 := hBr.cell (i := 11) rfl
        have cf := hBr.frozen
        have cl := hBr.lt
        have q1 : (0 : Int) ≤ (k : Int) := by omega
        have q2 : (k : Int) < (L.length : Int) := by omega
        have HP' := Lib.hid hp
        clear hp hK hBr
        cases hr : clRight1 c p with
        | false =>
          rw [hr] at hX
          have HX := Lib.hid hX; have HRR := Lib.hid hr; clear hX hr
          go_wp2_with (go_at_call 25; (with_reducible refine (HX.out _).mono ?_); rintro e w3 ⟨rfl, b3⟩; obtain ⟨c3, f3⟩ := bcell b3; have z3 := b3.size; (try simp at z3); clear c3 f3)
          go_ret
          refine ⟨ret_bool (by rw [all_no HP'.out HRR.out]), ?_⟩
          exact bww.out.trans (b3.mono (by omega))
        | true =>
          rw [hr] at hX
          have HX := Lib.hid hX; have HRR := Lib.hid hr; clear hX hr
          go_wp2_with (go_at_call 25; (with_reducible refine (HX.out _).mono ?_); rintro e w3 ⟨rfl, b3⟩; obtain ⟨c3, f3⟩ := bcell b3; have z3 := b3.size; (try simp at z3); clear c3 f3)
          go_roundw
          case rel =>
            exact ⟨k + 1, by omega, by go_num, HB.out.trans (b3.mono (by omega)), fun j q hj hq => by
              rcases Nat.lt_succ_iff_lt_or_eq.1 hj with h | rfl
              · exact HA.out j q h hq
              · rw [HP'.out] at hq; injection hq with hq; subst hq; exact HRR.out⟩
          case measure => simp [intOf]; omega
      · obtain rfl : k = L.length := by omega
        go_wp2_with fail
        go_ret
        exact ⟨ret_bool (by rw [all_of HA.out]), bww.out⟩
set_option maxRecDepth 100000 in
set_option maxHeartbeats 4000000 in
theorem clText_any (c : Cl) (hf : c.fits) (w : World) : Calls Tryz.prog 11 #[.agg #[.int .i64 c.kind, .bool c.en.ad.v6, .int .u64 c.en.ad.hi, .int .u64 c.en.ad.lo, .int .i64 c.en.port, .bool c.nt.ad.v6, .int .u64 c.nt.ad.hi, .int .u64 c.nt.ad.lo, .int .i64 c.nt.bits, .int .i64 c.now, .int .i64 c.num, .bool c.good]] w fun e w' => e = .returned (.string (bs (clText c))) ∧ Below w.heap.size w w' := by
  have HN := Lib.hid (fun w => codeCall_any c.kind w)
  have HL := Lib.hid (clText_len hf.a ⟨hf.now0, hf.now1⟩ ⟨hf.num0, hf.num1⟩)
  unfold clText at HL ⊢
  by_cases hn : nameAt callN c.kind = []
  · have q : ((bs (nameAt callN c.kind)).toList == []) = true := by rw [bs_toL, hn]; rfl
    rw [if_pos hn]
    clear hn hf HL
    generalize nameAt callN c.kind = nm at *
    have e0 : bs [] = ⟨#[]⟩ := rfl
    rw [e0]
    clear e0
    go_enter Tryz.func11, Tryz.ntmps11
    go_wp2_with (go_at_call 24; (with_reducible refine (HN.out _).mono ?_); rintro e w1 ⟨rfl, b1⟩; obtain ⟨c1, f1⟩ := bcell b1; have z1 := b1.size; (try simp at z1); have d1a := fun o => c1 (w.heap.size) o (by first | omega | (simp; done) | (simp; omega)); clear c1 f1)
    go_ret
    refine ⟨rfl, ?_⟩
    (repeat (first | with_reducible assumption | with_reducible exact Below.refl _ _ | with_reducible refine Below.setCell ?_ (by first | omega | (simp; done) | (simp; omega)) _ | with_reducible refine Below.alloc ?_ (by first | omega | (simp; done) | (simp; omega)) _ | with_reducible refine Below.drew ?_ | (with_reducible refine Below.trans ?_ (Below.mono (by with_reducible assumption) (by first | omega | (simp; done) | (simp; omega)))) | (refine Below.trans ?_ (Below.mono (by assumption) (by first | omega | (simp; done) | (simp; omega))))))
  · have q : ((bs (nameAt callN c.kind)).toList == []) = false := by rw [bs_toL]; simpa using hn
    have HP := Lib.hid (fun w => parts_any33 c.kind w)
    have HR := Lib.hid (fun p (hp : p ∈ clParts c.kind) w => clWritten_any c hf p (parts_le5 _ p hp) w)
    rw [if_neg hn] at HL ⊢
    clear hn hf
    generalize nameAt callN c.kind = nm at *
    have hL5 : (clParts c.kind).length ≤ 4 := by unfold clParts; repeat' split
                                                 all_goals decide
    generalize clParts c.kind = L at *
    have HBk : Hid (BlockIs (w.alloc (.cells #[.int .i64 c.kind, .bool c.en.ad.v6, .int .u64 c.en.ad.hi, .int .u64 c.en.ad.lo, .int .i64 c.en.port, .bool c.nt.ad.v6, .int .u64 c.nt.ad.hi, .int .u64 c.nt.ad.lo, .int .i64 c.nt.bits, .int .i64 c.now, .int .i64 c.num, .bool c.good] 30)) w.heap.size [.int .i64 c.kind, .bool c.en.ad.v6, .int .u64 c.en.ad.hi, .int .u64 c.en.ad.lo, .int .i64 c.en.port, .bool c.nt.ad.v6, .int .u64 c.nt.ad.hi, .int .u64 c.nt.ad.lo, .int .i64 c.nt.bits, .int .i64 c.now, .int .i64 c.num, .bool c.good] 30) := BlockIs.new w [.int .i64 c.kind, .bool c.en.ad.v6, .int .u64 c.en.ad.hi, .int .u64 c.en.ad.lo, .int .i64 c.en.port, .bool c.nt.ad.v6, .int .u64 c.nt.ad.hi, .int .u64 c.nt.ad.lo, .int .i64 c.nt.bits, .int .i64 c.now, .int .i64 c.num, .bool c.good] _
    go_enter Tryz.func11, Tryz.ntmps11
    go_wp2_with (first | (go_at_call 24; (with_reducible refine (HN.out _).mono ?_); rintro e w1 ⟨rfl, b1⟩; obtain ⟨c1, f1⟩ := bcell b1; have z1 := b1.size; (try simp at z1); have l1a : w.heap.size < w1.heap.size := (by omega); have n1a := Nat.ne_of_lt l1a; have d1a := fun o => c1 (w.heap.size) o (by first | omega | (simp; done) | (simp; omega)); clear c1 f1) | (go_at_call 15; (with_reducible refine (HP.out _).mono ?_); rintro e w2 ⟨a, cc, rfl, hpa, b2⟩; have HPA := Lib.hid hpa; clear hpa; have z2 := b2.size; (try simp at z2)))
    go_name_world WWx hWWx
    have lwx : w.heap.size < w1.heap.size := by omega
    have bwx : Below w.heap.size w WWx := by subst hWWx; (repeat (first | with_reducible assumption | with_reducible exact Below.refl _ _ | with_reducible refine Below.setCell ?_ (by first | omega | (simp; done) | (simp; omega)) _ | with_reducible refine Below.alloc ?_ (by first | omega | (simp; done) | (simp; omega)) _ | with_reducible refine Below.drew ?_ | (with_reducible refine Below.trans ?_ (Below.mono (by with_reducible assumption) (by first | omega | (simp; done) | (simp; omega)))) | (refine Below.trans ?_ (Below.mono (by assumption) (by first | omega | (simp; done) | (simp; omega))))))
    have hB : Hid (BlockIs WWx w.heap.size [.int .i64 c.kind, .bool c.en.ad.v6, .int .u64 c.en.ad.hi, .int .u64 c.en.ad.lo, .int .i64 c.en.port, .bool c.nt.ad.v6, .int .u64 c.nt.ad.hi, .int .u64 c.nt.ad.lo, .int .i64 c.nt.bits, .int .i64 c.now, .int .i64 c.num, .bool c.good] 30) := by subst hWWx; exact ((HBk.out.below b1).alloc' _).below b2
    have hO : Hid (WWx.ownsRow w1.heap.size 9 1 (.slice (some ⟨w1.heap.size, 0, none⟩) 1 1) 1 ([nm].map sv)) := by subst hWWx; exact owns_one ((BlockIs.new w1 [.string (bs nm)] 9).below b2) (Nat.le_refl _)
    have hQ : Hid (PartsAt WWx a cc L) := by subst hWWx; exact HPA.out
    have zw1 : w1.heap.size < WWx.heap.size := by subst hWWx; first | omega | (simp; omega)
    clear hWWx HPA HBk
    go_loopw [4, 6, 18] (fun v _ i wr => ∃ k : Nat, k ≤ L.length ∧ i = .int .i64 k ∧ Hid (wr.ownsRow w1.heap.size 9 1 v (k + 1) ((nm :: (L.take k).map (clWritten c)).map sv)) ∧ Hid (Below w1.heap.size WWx wr) ∧ Hid (PartsAt wr a cc L)) (fun _ _ i _ => L.length - (intOf i).toNat)
    case atStart => exact ⟨0, Nat.zero_le _, rfl, hO.out, Below.refl _ _, hQ.out⟩
    case round =>
      obtain ⟨k, hk, rfl, HO, HB, HQ⟩ := hrel
      have zr := HB.out.size
      have bww : Hid (Below w.heap.size w wr) := bwx.trans (HB.out.mono (Nat.le_of_lt lwx))
      by_cases hlt : k < L.length
      · obtain ⟨p, hp⟩ : ∃ p, L[k]? = some p := ⟨_, List.getElem?_eq_getElem hlt⟩
        obtain ⟨B, rfl, hcc, hK⟩ := HQ.out (by omega)
        have x0 := part_cell hK hp
        have hKl := hK.lt
        have HX := Lib.hid (fun w => HR.out p (List.mem_of_getElem? hp) w)
        unfold ptV at HX
        have hBr := blk_belowC hB.out HB.out lwx
        have c0 := hBr.cell (i := 0) rfl
        have c1 := hBr.cell (i := 1) rfl
        have c2 := hBr.cell (i := 2) rfl
        have c3 := hBr.cell (i := 3) rfl
        have c4 := hBr.cell (i := 4) rfl
        have c5 := hBr.cell (i := 5) rfl
        have c6 := hBr.cell (i := 6) rfl
        have c7 := hBr.cell (i := 7) rfl
        have c8 := hBr.cell (i := 8) rfl
        have c9 := hBr.cell (i := 9) rfl
        have c10 := hBr.cell (i := 10) rfl
        have c11 := hBr.cell (i := 11) rfl
        have cf := hBr.frozen
        have cl := hBr.lt
        have q1 : (0 : Int) ≤ (k : Int) := by omega
        have q2 : (k : Int) < (L.length : Int) := by omega
        have hst : L.take (k + 1) = L.take k ++ [p] := by rw [List.take_add_one, hp]; rfl
        have HST := Lib.hid hst
        clear hp hK hBr hst
        obtain ⟨tx, htx⟩ : ∃ t, clWritten c p = t := ⟨_, rfl⟩
        rw [htx] at HX
        have HTX := Lib.hid htx; clear htx
        go_wp2_with (first | (go_at_call 29; (with_reducible refine (HX.out _).mono ?_); rintro e' w3 ⟨rfl, b3⟩; have z3 := b3.size; (try simp at z3); have own3 := (owns_below HO.out b3).alloc (.cells #[.string (bs tx)] 9); have HQ3 := Lib.hid (HQ.out.below b3 (Nat.le_refl _)); have bel3 := Below.trans HB.out (b3.mono (show w1.heap.size ≤ _ from by omega))) | (at_builtin; refine list_app_reads_g strRow rfl (.tmp 22) (.tmp 26) rfl w1.heap.size _ _ _ rfl own3 _ 1 ([tx].map sv) rfl (reads_one (us := [tx].map sv) rfl (Nat.succ_pos 0)) (svs_one _) (by omega) (by omega) (by simp; omega) ?_; intro v4 w4 own4 hg4; have HQ4 := Lib.hid (PartsAt.grown (fun h => by obtain ⟨B', e1, e2, e3⟩ := HQ3.out h; exact ⟨B', e1, e2, e3.alloc' _⟩) own3 hg4); have bel4 := Lib.hid (below_grown own3 (Below.alloc bel3 (show w1.heap.size ≤ _ from by omega) _) (Nat.le_refl _) (by simp; omega) hg4)))
        go_roundw
        case rel =>
          refine ⟨k + 1, by omega, by go_num, ?_, bel4.out, HQ4.out⟩
          unfold Hid
          rw [HST.out]
          simpa [sv, HTX.out] using own4
        case measure => simp [intOf]; omega
      · obtain rfl : k = L.length := by omega
        have hown := HO.out
        rw [List.take_length] at hown
        have HROW := Lib.hid (row_of (owns_reads hown) (l := nm :: L.map (clWritten c)) (by simp) rfl (by simp only [List.length_cons, List.length_map]; omega) (Nat.le_trans HL.out (by decide)))
        go_wp2_with (go_at_call 30; (with_reducible refine (HROW.out).mono ?_); rintro e w5 ⟨rfl, b5⟩; obtain ⟨c5, f5⟩ := bcell b5; have z5 := b5.size; (try simp at z5); clear c5 f5)
        go_ret
        exact ⟨rfl, bww.out.trans (b5.mono (by omega))⟩
end Go.Proofs.YtnohkfbapibmdaaGreat
