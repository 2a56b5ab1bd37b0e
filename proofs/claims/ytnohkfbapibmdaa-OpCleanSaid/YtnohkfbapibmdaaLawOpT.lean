/- The laws of operations: any operation; what is cleaned. -/
import Derived.Test.YtnohkfbapibmdaaLawOp
namespace Go.Proofs.Ytnohkfbapibmdaa
open Go.RowKit
set_option linter.unusedSimpArgs false
set_option linter.unusedVariables false

set_option maxRecDepth 100000 in
set_option maxHeartbeats 16000000 in
theorem opTells_any (o : Oq) (n : Int) (w : World) (hg : o.good w) : Calls Try.prog 7 #[.agg #[.int .i64 o.kind, .int .i64 o.lock, .int .i64 o.lk, .int .i64 o.ls, .int .i64 o.lt, .int .i64 o.old, .int .i64 o.new, .int .i64 o.vn, .bool o.pe.en.ad.v6, .int .u64 o.pe.en.ad.hi, .int .u64 o.pe.en.ad.lo, .int .i64 o.pe.en.port, .bool o.pe.came, .int .i64 o.pe.since, .int .i64 o.pe.pts, .int .i64 o.pe.at_, .int .i64 o.pe.ping, .int .i64 o.pe.work, o.bans.1, o.book.1, .bool o.mark], .int .i64 n] w fun e w' => e = .returned (.bool true) ∧ Below w.heap.size w w' := by
  obtain ⟨g0, g1, g2, g3, g4, g5, g6, g7, g8, ⟨hb, _⟩, ⟨hy, _⟩⟩ := hg
  have hsh := shaped_of hb hy
  have hcr := clean_reads hb hy
  have hcs := shaped_of hcr.1 hcr.2
  have hci := clean_i64 ⟨g0, g1, g2, g3, g4, g5, g6, g7⟩ g8.1.1
  have HA := Lib.hid (fun w => awake36_any w)
  have hlen : (opClean o).bans.2.length ≤ o.bans.2.length ∧ (opClean o).book.2.length ≤ o.book.2.length := by
    obtain ⟨h1, h2⟩ := clean_slices o
    constructor
    · rcases h1 with h | h <;> rw [h]
      · exact Nat.zero_le _
      · exact Nat.le_refl _
    · rcases h2 with h | h <;> rw [h]
      · exact Nat.zero_le _
      · exact Nat.le_refl _
  by_cases hl : o.bans.2.length ≤ 30 ∧ o.book.2.length ≤ 30
  · have h1 := fun w => opRight_any o n w
    have h2 := fun w => refRight36_any o n w
    have h3 := fun w => opClean_all o hsh w
    have h4 := fun w => refClean_all o hsh w
    have h5 := fun w => opText_all o hsh g1 g3 g4 g5 g6 g7 g8.1.1 (by omega) (by omega) w
    have h6 := fun w => refText36_all o hsh g1 g3 g4 g5 g6 g7 g8.1.1 (by omega) (by omega) w
    have h7 := fun w => opPlace_any o.lk o.ls o.lt n w
    have h8 := fun w => refPlace_any o.lk o.ls o.lt n w
    have i1 := fun w => opRight_any (opClean o) n w
    have i3 := fun w => opClean_all (opClean o) hcs w
    have i5 := fun w => opText_all (opClean o) hcs hci.1.1 hci.1.2.2.1 hci.1.2.2.2.1 hci.1.2.2.2.2.1 hci.1.2.2.2.2.2.1 hci.1.2.2.2.2.2.2 hci.2 (by omega) (by omega) w
    rw [opRight_clean] at i1
    rw [opClean_idem] at i3
    rw [opText_clean] at i5
    have h9 := fun w' (h : Below w.heap.size w w') => sameOp_self (opClean o) hcs w' (hcr.1.below h) (hcr.2.below h)
    generalize opClean o = c at *
    generalize opRight o n = rt at *
    generalize opText o = tx at *
    generalize plOk o.lk o.ls o.lt n = pl at *
    obtain ⟨kind, lock, lk, ls, lt, old, new, vn, pe, bans, book, mark⟩ := o
    obtain ⟨bv, bl⟩ := bans
    obtain ⟨yv, yl⟩ := book
    obtain ⟨⟨ba, bc, f1⟩, ⟨ya, yc, f2⟩⟩ := hsh
    simp only at f1 f2 hl h1 h2 h3 h4 h5 h6 h7 h8
    subst f1 f2
    have hL := fun w => light36_any vn pe ba ya bl.length bc yl.length yc w
    rw [decide_eq_true hl] at hL
    obtain ⟨⟨ca, cc, hcb⟩, ⟨cya, cyc, hcy⟩⟩ := hcs
    have HCB := Lib.hid hcb; have HCY := Lib.hid hcy
    have e1 : (rt == rt) = true := by simp
    have e2 : (pl == pl) = true := by simp
    have e3 : ((bs tx).toList == (bs tx).toList) = true := by simp
    have HR := Lib.hid h1; have HR2 := Lib.hid h2; have HC := Lib.hid h3; have HC2 := Lib.hid h4; have HT := Lib.hid h5; have HT2 := Lib.hid h6; have HP := Lib.hid h7; have HP2 := Lib.hid h8; have IR := Lib.hid i1; have IC := Lib.hid i3; have IT := Lib.hid i5; have HS := Lib.hid h9; have HL := Lib.hid hL
    clear h1 h2 h3 h4 h5 h6 h7 h8 i1 i3 i5 h9 hL hl hlen hci hcr hcb hcy g0 g1 g2 g3 g4 g5 g6 g7 g8 hb hy
    go_enter Try.func7, Try.ntmps7
    go_upto_region 3 with (go_at_call 35; (with_reducible refine (HL.out _).mono ?_); rintro e w1 ⟨rfl, b1⟩; obtain ⟨c1, f1⟩ := bcell b1; have z1 := b1.size; (try simp at z1); have l1a : w.heap.size < w1.heap.size := (by omega); have n1a := Nat.ne_of_lt l1a; have d1a := fun o => c1 (w.heap.size) o (by first | omega | (simp; done) | (simp; omega)); clear c1 f1)
    go_name_world WWx hWWx
    have hA : BlockIs WWx w.heap.size [.int .i64 kind, .int .i64 lock, .int .i64 lk, .int .i64 ls, .int .i64 lt, .int .i64 old, .int .i64 new, .int .i64 vn, .bool pe.en.ad.v6, .int .u64 pe.en.ad.hi, .int .u64 pe.en.ad.lo, .int .i64 pe.en.port, .bool pe.came, .int .i64 pe.since, .int .i64 pe.pts, .int .i64 pe.at_, .int .i64 pe.ping, .int .i64 pe.work, .slice ba bl.length bc, .slice ya yl.length yc, .bool mark] 60 := by subst hWWx; exact (BlockIs.new w [.int .i64 kind, .int .i64 lock, .int .i64 lk, .int .i64 ls, .int .i64 lt, .int .i64 old, .int .i64 new, .int .i64 vn, .bool pe.en.ad.v6, .int .u64 pe.en.ad.hi, .int .u64 pe.en.ad.lo, .int .i64 pe.en.port, .bool pe.came, .int .i64 pe.since, .int .i64 pe.pts, .int .i64 pe.at_, .int .i64 pe.ping, .int .i64 pe.work, .slice ba bl.length bc, .slice ya yl.length yc, .bool mark] _).below b1
    have bWx : Below w.heap.size w WWx := by subst hWWx; (repeat (first | with_reducible assumption | with_reducible exact Below.refl _ _ | with_reducible refine Below.setCell ?_ (by first | omega | (simp; done) | (simp; omega)) _ | with_reducible refine Below.alloc ?_ (by first | omega | (simp; done) | (simp; omega)) _ | with_reducible refine Below.drew ?_ | (with_reducible refine Below.trans ?_ (Below.mono (by with_reducible assumption) (by first | omega | (simp; done) | (simp; omega)))) | (refine Below.trans ?_ (Below.mono (by assumption) (by first | omega | (simp; done) | (simp; omega))))))
    clear hWWx
    have hQ := BlockIs.ext hA
    have HSx := fun Y => HS.out (ext WWx Y) (bWx.trans ((ext_below WWx Y).mono bWx.size))
    have e12 := fun Y => (hQ _ ⟨Y, rfl⟩).cell (i := 2) rfl
    have e13 := fun Y => (hQ _ ⟨Y, rfl⟩).cell (i := 3) rfl
    have e14 := fun Y => (hQ _ ⟨Y, rfl⟩).cell (i := 4) rfl
    try simp only [List.append_eq, List.cons_append, List.nil_append]
    refine wp_region_ext (by kernel_rfl) (by kernel_rfl) ?_
    repeat (first | (refine wpQuiet_load_blk (by rfl) _ _ rfl _ _ _ hQ rfl Try.underlying60 (by kernel_rfl) ?_; go_simp) | go_big_quiet_step ((first | (go_at_call 37; with_reducible exact qe (HP.out _)) | (go_at_call 38; with_reducible exact qe (HP2.out _)) | (go_at_call 39; with_reducible exact qe (HR.out _)) | (go_at_call 40; with_reducible exact qe (HR2.out _)) | (go_at_call 42; with_reducible exact qe (HC.out _)) | (go_at_call 43; with_reducible exact qe (HC2.out _)) | (go_at_call 41; with_reducible exact qe (HSx _)) | (go_at_call 44; with_reducible exact qe (HT.out _)) | (go_at_call 45; with_reducible exact qe (HT2.out _)) | (go_at_call 36; with_reducible exact qe (HA.out _)))))
    refine wpQuiet_nil ?_
    first | (intro _ hw'; obtain ⟨x, hw''⟩ := hw'; subst hw'') | intro x
    go_wp2_with fail
    go_ret
    exact ⟨rfl, bWx.trans ((ext_below _ _).mono bWx.size)⟩
  · obtain ⟨kind, lock, lk, ls, lt, old, new, vn, pe, bans, book, mark⟩ := o
    obtain ⟨bv, bl⟩ := bans
    obtain ⟨yv, yl⟩ := book
    obtain ⟨⟨ba, bc, f1⟩, ⟨ya, yc, f2⟩⟩ := hsh
    simp only at f1 f2 hl
    subst f1 f2
    have hL := fun w => light36_any vn pe ba ya bl.length bc yl.length yc w
    rw [decide_eq_false hl] at hL
    have HL := Lib.hid hL
    clear hL hl hlen hci hcs hcr hb hy
    go_enter Try.func7, Try.ntmps7
    go_wp2_with (first | (go_at_call 35; (with_reducible refine (HL.out _).mono ?_); rintro e w1 ⟨rfl, b1⟩; obtain ⟨c1, f1⟩ := bcell b1; have z1 := b1.size; (try simp at z1); clear c1 f1) | (go_at_call 36; (with_reducible refine (HA.out _).mono ?_); rintro e w2 ⟨rfl, b2⟩; obtain ⟨c2, f2⟩ := bcell b2; have z2 := b2.size; (try simp at z2); clear c2 f2))
    go_ret
    refine ⟨rfl, ?_⟩
    (repeat (first | with_reducible assumption | with_reducible exact Below.refl _ _ | with_reducible refine Below.setCell ?_ (by first | omega | (simp; done) | (simp; omega)) _ | with_reducible refine Below.alloc ?_ (by first | omega | (simp; done) | (simp; omega)) _ | with_reducible refine Below.drew ?_ | (with_reducible refine Below.trans ?_ (Below.mono (by with_reducible assumption) (by first | omega | (simp; done) | (simp; omega)))) | (refine Below.trans ?_ (Below.mono (by assumption) (by first | omega | (simp; done) | (simp; omega))))))
set_option maxRecDepth 100000 in
set_option maxHeartbeats 16000000 in
theorem opClean_law (o : Oq) (n : Int) (w : World) (hg : o.good w) : Calls Try.prog 8 #[.agg #[.int .i64 o.kind, .int .i64 o.lock, .int .i64 o.lk, .int .i64 o.ls, .int .i64 o.lt, .int .i64 o.old, .int .i64 o.new, .int .i64 o.vn, .bool o.pe.en.ad.v6, .int .u64 o.pe.en.ad.hi, .int .u64 o.pe.en.ad.lo, .int .i64 o.pe.en.port, .bool o.pe.came, .int .i64 o.pe.since, .int .i64 o.pe.pts, .int .i64 o.pe.at_, .int .i64 o.pe.ping, .int .i64 o.pe.work, o.bans.1, o.book.1, .bool o.mark], .int .i64 n] w fun e w' => e = .returned (.bool true) ∧ Below w.heap.size w w' := by
  obtain ⟨g0, g1, g2, g3, g4, g5, g6, g7, g8, ⟨hb, _⟩, ⟨hy, _⟩⟩ := hg
  have hsh := shaped_of hb hy
  have hcr := clean_reads hb hy
  have hcs := shaped_of hcr.1 hcr.2
  have hci := clean_i64 ⟨g0, g1, g2, g3, g4, g5, g6, g7⟩ g8.1.1
  have HA := Lib.hid (fun w => awake36_any w)
  have hlen : (opClean o).bans.2.length ≤ o.bans.2.length ∧ (opClean o).book.2.length ≤ o.book.2.length := by
    obtain ⟨h1, h2⟩ := clean_slices o
    constructor
    · rcases h1 with h | h <;> rw [h]
      · exact Nat.zero_le _
      · exact Nat.le_refl _
    · rcases h2 with h | h <;> rw [h]
      · exact Nat.zero_le _
      · exact Nat.le_refl _
  by_cases hl : o.bans.2.length ≤ 30 ∧ o.book.2.length ≤ 30
  · have h1 := fun w => opRight_any o n w
    have h2 := fun w => refRight36_any o n w
    have h3 := fun w => opClean_all o hsh w
    have h4 := fun w => refClean_all o hsh w
    have h5 := fun w => opText_all o hsh g1 g3 g4 g5 g6 g7 g8.1.1 (by omega) (by omega) w
    have h6 := fun w => refText36_all o hsh g1 g3 g4 g5 g6 g7 g8.1.1 (by omega) (by omega) w
    have h7 := fun w => opPlace_any o.lk o.ls o.lt n w
    have h8 := fun w => refPlace_any o.lk o.ls o.lt n w
    have i1 := fun w => opRight_any (opClean o) n w
    have i3 := fun w => opClean_all (opClean o) hcs w
    have i5 := fun w => opText_all (opClean o) hcs hci.1.1 hci.1.2.2.1 hci.1.2.2.2.1 hci.1.2.2.2.2.1 hci.1.2.2.2.2.2.1 hci.1.2.2.2.2.2.2 hci.2 (by omega) (by omega) w
    rw [opRight_clean] at i1
    rw [opClean_idem] at i3
    rw [opText_clean] at i5
    have h9 := fun w' (h : Below w.heap.size w w') => sameOp_self (opClean o) hcs w' (hcr.1.below h) (hcr.2.below h)
    generalize opClean o = c at *
    generalize opRight o n = rt at *
    generalize opText o = tx at *
    generalize plOk o.lk o.ls o.lt n = pl at *
    obtain ⟨kind, lock, lk, ls, lt, old, new, vn, pe, bans, book, mark⟩ := o
    obtain ⟨bv, bl⟩ := bans
    obtain ⟨yv, yl⟩ := book
    obtain ⟨⟨ba, bc, f1⟩, ⟨ya, yc, f2⟩⟩ := hsh
    simp only at f1 f2 hl h1 h2 h3 h4 h5 h6 h7 h8
    subst f1 f2
    have hL := fun w => light36_any vn pe ba ya bl.length bc yl.length yc w
    rw [decide_eq_true hl] at hL
    obtain ⟨⟨ca, cc, hcb⟩, ⟨cya, cyc, hcy⟩⟩ := hcs
    have HCB := Lib.hid hcb; have HCY := Lib.hid hcy
    have e1 : (rt == rt) = true := by simp
    have e2 : (pl == pl) = true := by simp
    have e3 : ((bs tx).toList == (bs tx).toList) = true := by simp
    have HR := Lib.hid h1; have HR2 := Lib.hid h2; have HC := Lib.hid h3; have HC2 := Lib.hid h4; have HT := Lib.hid h5; have HT2 := Lib.hid h6; have HP := Lib.hid h7; have HP2 := Lib.hid h8; have IR := Lib.hid i1; have IC := Lib.hid i3; have IT := Lib.hid i5; have HS := Lib.hid h9; have HL := Lib.hid hL
    clear h1 h2 h3 h4 h5 h6 h7 h8 i1 i3 i5 h9 hL hl hlen hci hcr hcb hcy g0 g1 g2 g3 g4 g5 g6 g7 g8 hb hy
    go_enter Try.func8, Try.ntmps8
    go_upto_region 3 with (go_at_call 35; (with_reducible refine (HL.out _).mono ?_); rintro e w1 ⟨rfl, b1⟩; obtain ⟨c1, f1⟩ := bcell b1; have z1 := b1.size; (try simp at z1); have l1a : w.heap.size < w1.heap.size := (by omega); have n1a := Nat.ne_of_lt l1a; have d1a := fun o => c1 (w.heap.size) o (by first | omega | (simp; done) | (simp; omega)); clear c1 f1)
    go_name_world WWy hWWy
    have hA : BlockIs WWy w.heap.size [.int .i64 kind, .int .i64 lock, .int .i64 lk, .int .i64 ls, .int .i64 lt, .int .i64 old, .int .i64 new, .int .i64 vn, .bool pe.en.ad.v6, .int .u64 pe.en.ad.hi, .int .u64 pe.en.ad.lo, .int .i64 pe.en.port, .bool pe.came, .int .i64 pe.since, .int .i64 pe.pts, .int .i64 pe.at_, .int .i64 pe.ping, .int .i64 pe.work, .slice ba bl.length bc, .slice ya yl.length yc, .bool mark] 60 := by subst hWWy; exact (BlockIs.new w [.int .i64 kind, .int .i64 lock, .int .i64 lk, .int .i64 ls, .int .i64 lt, .int .i64 old, .int .i64 new, .int .i64 vn, .bool pe.en.ad.v6, .int .u64 pe.en.ad.hi, .int .u64 pe.en.ad.lo, .int .i64 pe.en.port, .bool pe.came, .int .i64 pe.since, .int .i64 pe.pts, .int .i64 pe.at_, .int .i64 pe.ping, .int .i64 pe.work, .slice ba bl.length bc, .slice ya yl.length yc, .bool mark] _).below b1
    have bWy : Below w.heap.size w WWy := by subst hWWy; (repeat (first | with_reducible assumption | with_reducible exact Below.refl _ _ | with_reducible refine Below.setCell ?_ (by first | omega | (simp; done) | (simp; omega)) _ | with_reducible refine Below.alloc ?_ (by first | omega | (simp; done) | (simp; omega)) _ | with_reducible refine Below.drew ?_ | (with_reducible refine Below.trans ?_ (Below.mono (by with_reducible assumption) (by first | omega | (simp; done) | (simp; omega)))) | (refine Below.trans ?_ (Below.mono (by assumption) (by first | omega | (simp; done) | (simp; omega))))))
    have zWy := bWy.size
    clear hWWy
    go_upto_region 4 with (first | (refine list_load_blk rfl _ _ rfl _ _ _ hA rfl Try.underlying60 (by kernel_rfl) ?_) | (go_at_call 42; (with_reducible refine (HC.out _).mono ?_); rintro e wc ⟨rfl, bc1⟩; have zc := bc1.size) | (refine list_store_blk rfl 60 _ _ rfl (wc.heap.size) _ _ 60 (BlockIs.newAt' _ _ _ (by simp)) rfl rfl (by kernel_rfl) rfl (by simp [Value.oneCell', HCB.out, HCY.out]) w.heap.size w (by (repeat (first | with_reducible assumption | with_reducible exact Below.refl _ _ | with_reducible refine Below.setCell ?_ (by first | omega | (simp; done) | (simp; omega)) _ | with_reducible refine Below.alloc ?_ (by first | omega | (simp; done) | (simp; omega)) _ | with_reducible refine Below.drew ?_ | (with_reducible refine Below.trans ?_ (Below.mono (by with_reducible assumption) (by first | omega | (simp; done) | (simp; omega)))) | (refine Below.trans ?_ (Below.mono (by assumption) (by first | omega | (simp; done) | (simp; omega))))))) (by omega) ?_; intro WWx hO hoth hsz bWx))
    have zA := hA.lt
    have hA2 := hoth w.heap.size _ _ (by omega) ((hA.below bc1).alloc' _)
    clear hoth
    have hQ := BlockIs.ext hA2
    have hQ2 := BlockIs.ext hO
    have HSx := fun Y => HS.out (ext WWx Y) (bWx.trans ((ext_below WWx Y).mono bWx.size))
    try simp only [List.append_eq, List.cons_append, List.nil_append]
    refine wp_region_ext (by kernel_rfl) (by kernel_rfl) ?_
    repeat (first | (refine wpQuiet_load_blk (by rfl) _ _ rfl _ _ _ hQ rfl Try.underlying60 (by kernel_rfl) ?_; go_simp) | (refine wpQuiet_load_blk (by rfl) _ _ rfl _ _ _ hQ2 rfl Try.underlying60 (by kernel_rfl) ?_; go_simp) | go_big_quiet_step ((first | (go_at_call 39; with_reducible exact qe (IR.out _)) | (go_at_call 39; with_reducible exact qe (HR.out _)) | (go_at_call 42; with_reducible exact qe (IC.out _)) | (go_at_call 41; with_reducible exact qe (HSx _)) | (go_at_call 44; with_reducible exact qe (IT.out _)) | (go_at_call 44; with_reducible exact qe (HT.out _)) | (go_at_call 36; with_reducible exact qe (HA.out _)))))
    refine wpQuiet_nil ?_
    first | (intro _ hw'; obtain ⟨x, hw''⟩ := hw'; subst hw'') | intro x
    go_wp2_with fail
    go_ret
    exact ⟨rfl, bWx.trans ((ext_below _ _).mono bWx.size)⟩
  · obtain ⟨kind, lock, lk, ls, lt, old, new, vn, pe, bans, book, mark⟩ := o
    obtain ⟨bv, bl⟩ := bans
    obtain ⟨yv, yl⟩ := book
    obtain ⟨⟨ba, bc, f1⟩, ⟨ya, yc, f2⟩⟩ := hsh
    simp only at f1 f2 hl
    subst f1 f2
    have hL := fun w => light36_any vn pe ba ya bl.length bc yl.length yc w
    rw [decide_eq_false hl] at hL
    have HL := Lib.hid hL
    clear hL hl hlen hci hcs hcr hb hy
    go_enter Try.func8, Try.ntmps8
    go_wp2_with (first | (go_at_call 35; (with_reducible refine (HL.out _).mono ?_); rintro e w1 ⟨rfl, b1⟩; obtain ⟨c1, f1⟩ := bcell b1; have z1 := b1.size; (try simp at z1); clear c1 f1) | (go_at_call 36; (with_reducible refine (HA.out _).mono ?_); rintro e w2 ⟨rfl, b2⟩; obtain ⟨c2, f2⟩ := bcell b2; have z2 := b2.size; (try simp at z2); clear c2 f2))
    go_ret
    refine ⟨rfl, ?_⟩
    (repeat (first | with_reducible assumption | with_reducible exact Below.refl _ _ | with_reducible refine Below.setCell ?_ (by first | omega | (simp; done) | (simp; omega)) _ | with_reducible refine Below.alloc ?_ (by first | omega | (simp; done) | (simp; omega)) _ | with_reducible refine Below.drew ?_ | (with_reducible refine Below.trans ?_ (Below.mono (by with_reducible assumption) (by first | omega | (simp; done) | (simp; omega)))) | (refine Below.trans ?_ (Below.mono (by assumption) (by first | omega | (simp; done) | (simp; omega))))))
end Go.Proofs.Ytnohkfbapibmdaa
