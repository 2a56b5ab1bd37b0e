/- The contracts of operations: their lines. -/
import Derived.Test.YtnohkfbapibmdaaOpT
import Derived.Test.YtnohkfbapibmdaaQc03ddbrmyxtq
namespace Go.Proofs.Ytnohkfbapibmdaa
open Go.RowKit
set_option linter.unusedSimpArgs false
set_option linter.unusedVariables false

theorem owns_drew {w : World} {base : Nat} {e : TypeId} {size : Nat} {v : Value} {n : Nat} {xs : List Value} (h : w.ownsRow base e size v n xs) : w.drew.ownsRow base e size v n xs := h
set_option maxRecDepth 100000 in
set_option maxHeartbeats 16000000 in
theorem opText1M_any (lock lk ls lt old new vn : Int) (pe : Pe) (ba ya : Option Addr) (bn bc yn yc : Nat) (hlock : i64 lock) (hls : i64 ls) (hlt : i64 lt) (hold : i64 old) (hnew : i64 new) (hvn : i64 vn) (hpe : pe.en.ad.fits) (hbn : bn ≤ 1000000) (hyn : yn ≤ 1000000) (w : World) :
    Calls Try.prog 44 #[.agg #[.int .i64 1, .int .i64 lock, .int .i64 lk, .int .i64 ls, .int .i64 lt, .int .i64 old, .int .i64 new, .int .i64 vn, .bool pe.en.ad.v6, .int .u64 pe.en.ad.hi, .int .u64 pe.en.ad.lo, .int .i64 pe.en.port, .bool pe.came, .int .i64 pe.since, .int .i64 pe.pts, .int .i64 pe.at_, .int .i64 pe.ping, .int .i64 pe.work, .slice ba bn bc, .slice ya yn yc, .bool true]] w fun r w' => r = .returned (.string (bs (joinL 32 ([nameAt opN 1] ++ [decText lock] ++ [[42]])))) ∧ Below w.heap.size w w' := by
  have HC := Lib.hid (fun w => codeOp_any 1 w)
  have HD := Lib.hid (fun w => decText_any lock hlock.1 hlock.2 w)
  have hl := (Few.cons (Nat.le_trans (nameOp_len 1) (by omega)) Few.nil).app (Few.cons (Nat.le_trans (decText_len lock hlock.1 hlock.2) (by omega)) Few.nil) |>.app few42 |>.join
  generalize nameAt opN 1 = nm at *
  generalize decText lock = t at *
  have HL := Lib.hid hl; clear hl
  have HROW := Lib.hid (fun v n xs W => @row_of v n xs ([nm] ++ [t] ++ [[42]]) W)
  go_enter Try.func44, Try.ntmps44
  go_upto_region 2 with (go_at_call 95; (with_reducible refine (HC.out _).mono ?_); rintro e w1 ⟨rfl, b1⟩; obtain ⟨c1, f1⟩ := bcell b1; have z1 := b1.size; (try simp at z1); have l1a : w.heap.size < w1.heap.size := (by omega); have n1a := Nat.ne_of_lt l1a; have d1a := fun o => c1 (w.heap.size) o (by first | omega | (simp; done) | (simp; omega)); clear c1 f1)
  go_name_world WWx hWWx
  have hB : BlockIs WWx w1.heap.size [.string (bs nm)] 9 := by subst hWWx; exact BlockIs.new w1 [.string (bs nm)] 9
  have hA : BlockIs WWx w.heap.size [.int .i64 1, .int .i64 lock, .int .i64 lk, .int .i64 ls, .int .i64 lt, .int .i64 old, .int .i64 new, .int .i64 vn, .bool pe.en.ad.v6, .int .u64 pe.en.ad.hi, .int .u64 pe.en.ad.lo, .int .i64 pe.en.port, .bool pe.came, .int .i64 pe.since, .int .i64 pe.pts, .int .i64 pe.at_, .int .i64 pe.ping, .int .i64 pe.work, .slice ba bn bc, .slice ya yn yc, .bool true] 60 := by subst hWWx; exact ((BlockIs.new w [.int .i64 1, .int .i64 lock, .int .i64 lk, .int .i64 ls, .int .i64 lt, .int .i64 old, .int .i64 new, .int .i64 vn, .bool pe.en.ad.v6, .int .u64 pe.en.ad.hi, .int .u64 pe.en.ad.lo, .int .i64 pe.en.port, .bool pe.came, .int .i64 pe.since, .int .i64 pe.pts, .int .i64 pe.at_, .int .i64 pe.ping, .int .i64 pe.work, .slice ba bn bc, .slice ya yn yc, .bool true] _).below b1).alloc' _
  have bwx : Below w.heap.size w WWx := by subst hWWx; (repeat (first | with_reducible assumption | with_reducible exact Below.refl _ _ | with_reducible refine Below.setCell ?_ (by first | omega | (simp; done) | (simp; omega)) _ | with_reducible refine Below.alloc ?_ (by first | omega | (simp; done) | (simp; omega)) _ | with_reducible refine Below.drew ?_ | (with_reducible refine Below.trans ?_ (Below.mono (by with_reducible assumption) (by first | omega | (simp; done) | (simp; omega)))) | (refine Below.trans ?_ (Below.mono (by assumption) (by first | omega | (simp; done) | (simp; omega))))))
  have lwx : w.heap.size < w1.heap.size := by omega
  have zwx := hB.lt
  clear hWWx
  have xa0 := hA.cell (i := 0) rfl
  have xa1 := hA.cell (i := 1) rfl
  have xa20 := hA.cell (i := 20) rfl
  have xaf := hA.frozen
  have xal := hA.lt
  have own0 := owns_one hB (Nat.le_refl _)
  have bel0 := Below.refl w1.heap.size WWx
  clear hA hB
  go_wp2_with (first | (go_at_call 87; (with_reducible refine (HD.out _).mono ?_); rintro e wc1 ⟨rfl, bc1⟩; have zc1 := bc1.size; (try simp only [World.size_drew] at zc1); have belc1 := Below.trans bel0 (bc1.mono (show w1.heap.size ≤ _ from by first | omega | (simp only [World.size_drew]; omega))); have ownc1 := owns_below own0 bc1; have dc1 := fun o => belc1.cell (p := ⟨w.heap.size, o, none⟩) lwx) | (at_builtin; refine list_app strRow rfl (.tmp 15) (.tmp 19) rfl w1.heap.size _ _ _ rfl ownc1 [_] rfl rfl rfl (by omega) (by omega) (by omega) w1.heap.size WWx belc1 (Nat.le_refl _) ?_; intro vg1 wg1 owng1 belg1; have zg1 := belg1.size; have dg1 := fun o => belg1.cell (p := ⟨w.heap.size, o, none⟩) lwx) | (at_builtin; refine list_app strRow rfl (.tmp 61) (.tmp 62) rfl w1.heap.size _ _ _ rfl owng1 [_] rfl rfl rfl (by omega) (by omega) (by omega) w1.heap.size WWx belg1 (Nat.le_refl _) ?_; intro vg9 wg9 owng9 belg9; have zg9 := belg9.size; have dg9 := fun o => belg9.cell (p := ⟨w.heap.size, o, none⟩) lwx) | (go_at_call 74; (with_reducible refine (HROW.out _ _ _ _ (owns_reads owng9) (by simp; try omega) (by first | (simp [sv]; done) | (simp [sv, bs]; done)) (by simp; try omega) (by have := HL.out; omega)).mono ?_); rintro e wz ⟨rfl, bz⟩))
  go_ret
  exact ⟨ret_str (by simp), below2 (bwx.trans (belg9.mono (Nat.le_of_lt lwx))) bz⟩
set_option maxRecDepth 100000 in
set_option maxHeartbeats 16000000 in
theorem opText2M_any (lock lk ls lt old new vn : Int) (pe : Pe) (ba ya : Option Addr) (bn bc yn yc : Nat) (hlock : i64 lock) (hls : i64 ls) (hlt : i64 lt) (hold : i64 old) (hnew : i64 new) (hvn : i64 vn) (hpe : pe.en.ad.fits) (hbn : bn ≤ 1000000) (hyn : yn ≤ 1000000) (w : World) :
    Calls Try.prog 44 #[.agg #[.int .i64 2, .int .i64 lock, .int .i64 lk, .int .i64 ls, .int .i64 lt, .int .i64 old, .int .i64 new, .int .i64 vn, .bool pe.en.ad.v6, .int .u64 pe.en.ad.hi, .int .u64 pe.en.ad.lo, .int .i64 pe.en.port, .bool pe.came, .int .i64 pe.since, .int .i64 pe.pts, .int .i64 pe.at_, .int .i64 pe.ping, .int .i64 pe.work, .slice ba bn bc, .slice ya yn yc, .bool true]] w fun r w' => r = .returned (.string (bs (joinL 32 ([nameAt opN 2] ++ [decText lock] ++ [[42]])))) ∧ Below w.heap.size w w' := by
  have HC := Lib.hid (fun w => codeOp_any 2 w)
  have HD := Lib.hid (fun w => decText_any lock hlock.1 hlock.2 w)
  have hl := (Few.cons (Nat.le_trans (nameOp_len 2) (by omega)) Few.nil).app (Few.cons (Nat.le_trans (decText_len lock hlock.1 hlock.2) (by omega)) Few.nil) |>.app few42 |>.join
  generalize nameAt opN 2 = nm at *
  generalize decText lock = t at *
  have HL := Lib.hid hl; clear hl
  have HROW := Lib.hid (fun v n xs W => @row_of v n xs ([nm] ++ [t] ++ [[42]]) W)
  go_enter Try.func44, Try.ntmps44
  go_upto_region 2 with (go_at_call 95; (with_reducible refine (HC.out _).mono ?_); rintro e w1 ⟨rfl, b1⟩; obtain ⟨c1, f1⟩ := bcell b1; have z1 := b1.size; (try simp at z1); have l1a : w.heap.size < w1.heap.size := (by omega); have n1a := Nat.ne_of_lt l1a; have d1a := fun o => c1 (w.heap.size) o (by first | omega | (simp; done) | (simp; omega)); clear c1 f1)
  go_name_world WWx hWWx
  have hB : BlockIs WWx w1.heap.size [.string (bs nm)] 9 := by subst hWWx; exact BlockIs.new w1 [.string (bs nm)] 9
  have hA : BlockIs WWx w.heap.size [.int .i64 2, .int .i64 lock, .int .i64 lk, .int .i64 ls, .int .i64 lt, .int .i64 old, .int .i64 new, .int .i64 vn, .bool pe.en.ad.v6, .int .u64 pe.en.ad.hi, .int .u64 pe.en.ad.lo, .int .i64 pe.en.port, .bool pe.came, .int .i64 pe.since, .int .i64 pe.pts, .int .i64 pe.at_, .int .i64 pe.ping, .int .i64 pe.work, .slice ba bn bc, .slice ya yn yc, .bool true] 60 := by subst hWWx; exact ((BlockIs.new w [.int .i64 2, .int .i64 lock, .int .i64 lk, .int .i64 ls, .int .i64 lt, .int .i64 old, .int .i64 new, .int .i64 vn, .bool pe.en.ad.v6, .int .u64 pe.en.ad.hi, .int .u64 pe.en.ad.lo, .int .i64 pe.en.port, .bool pe.came, .int .i64 pe.since, .int .i64 pe.pts, .int .i64 pe.at_, .int .i64 pe.ping, .int .i64 pe.work, .slice ba bn bc, .slice ya yn yc, .bool true] _).below b1).alloc' _
  have bwx : Below w.heap.size w WWx := by subst hWWx; (repeat (first | with_reducible assumption | with_reducible exact Below.refl _ _ | with_reducible refine Below.setCell ?_ (by first | omega | (simp; done) | (simp; omega)) _ | with_reducible refine Below.alloc ?_ (by first | omega | (simp; done) | (simp; omega)) _ | with_reducible refine Below.drew ?_ | (with_reducible refine Below.trans ?_ (Below.mono (by with_reducible assumption) (by first | omega | (simp; done) | (simp; omega)))) | (refine Below.trans ?_ (Below.mono (by assumption) (by first | omega | (simp; done) | (simp; omega))))))
  have lwx : w.heap.size < w1.heap.size := by omega
  have zwx := hB.lt
  clear hWWx
  have xa0 := hA.cell (i := 0) rfl
  have xa1 := hA.cell (i := 1) rfl
  have xa20 := hA.cell (i := 20) rfl
  have xaf := hA.frozen
  have xal := hA.lt
  have own0 := owns_one hB (Nat.le_refl _)
  have bel0 := Below.refl w1.heap.size WWx
  clear hA hB
  go_wp2_with (first | (go_at_call 87; (with_reducible refine (HD.out _).mono ?_); rintro e wc1 ⟨rfl, bc1⟩; have zc1 := bc1.size; (try simp only [World.size_drew] at zc1); have belc1 := Below.trans bel0 (bc1.mono (show w1.heap.size ≤ _ from by first | omega | (simp only [World.size_drew]; omega))); have ownc1 := owns_below own0 bc1; have dc1 := fun o => belc1.cell (p := ⟨w.heap.size, o, none⟩) lwx) | (at_builtin; refine list_app strRow rfl (.tmp 15) (.tmp 19) rfl w1.heap.size _ _ _ rfl ownc1 [_] rfl rfl rfl (by omega) (by omega) (by omega) w1.heap.size WWx belc1 (Nat.le_refl _) ?_; intro vg1 wg1 owng1 belg1; have zg1 := belg1.size; have dg1 := fun o => belg1.cell (p := ⟨w.heap.size, o, none⟩) lwx) | (at_builtin; refine list_app strRow rfl (.tmp 61) (.tmp 62) rfl w1.heap.size _ _ _ rfl owng1 [_] rfl rfl rfl (by omega) (by omega) (by omega) w1.heap.size WWx belg1 (Nat.le_refl _) ?_; intro vg9 wg9 owng9 belg9; have zg9 := belg9.size; have dg9 := fun o => belg9.cell (p := ⟨w.heap.size, o, none⟩) lwx) | (go_at_call 74; (with_reducible refine (HROW.out _ _ _ _ (owns_reads owng9) (by simp; try omega) (by first | (simp [sv]; done) | (simp [sv, bs]; done)) (by simp; try omega) (by have := HL.out; omega)).mono ?_); rintro e wz ⟨rfl, bz⟩))
  go_ret
  exact ⟨ret_str (by simp), below2 (bwx.trans (belg9.mono (Nat.le_of_lt lwx))) bz⟩
set_option maxRecDepth 100000 in
set_option maxHeartbeats 16000000 in
theorem opText3M_any (lock lk ls lt old new vn : Int) (pe : Pe) (ba ya : Option Addr) (bn bc yn yc : Nat) (hlock : i64 lock) (hls : i64 ls) (hlt : i64 lt) (hold : i64 old) (hnew : i64 new) (hvn : i64 vn) (hpe : pe.en.ad.fits) (hbn : bn ≤ 1000000) (hyn : yn ≤ 1000000) (w : World) :
    Calls Try.prog 44 #[.agg #[.int .i64 3, .int .i64 lock, .int .i64 lk, .int .i64 ls, .int .i64 lt, .int .i64 old, .int .i64 new, .int .i64 vn, .bool pe.en.ad.v6, .int .u64 pe.en.ad.hi, .int .u64 pe.en.ad.lo, .int .i64 pe.en.port, .bool pe.came, .int .i64 pe.since, .int .i64 pe.pts, .int .i64 pe.at_, .int .i64 pe.ping, .int .i64 pe.work, .slice ba bn bc, .slice ya yn yc, .bool true]] w fun r w' => r = .returned (.string (bs (joinL 32 ([nameAt opN 3] ++ [decText lock] ++ [[42]])))) ∧ Below w.heap.size w w' := by
  have HC := Lib.hid (fun w => codeOp_any 3 w)
  have HD := Lib.hid (fun w => decText_any lock hlock.1 hlock.2 w)
  have hl := (Few.cons (Nat.le_trans (nameOp_len 3) (by omega)) Few.nil).app (Few.cons (Nat.le_trans (decText_len lock hlock.1 hlock.2) (by omega)) Few.nil) |>.app few42 |>.join
  generalize nameAt opN 3 = nm at *
  generalize decText lock = t at *
  have HL := Lib.hid hl; clear hl
  have HROW := Lib.hid (fun v n xs W => @row_of v n xs ([nm] ++ [t] ++ [[42]]) W)
  go_enter Try.func44, Try.ntmps44
  go_upto_region 2 with (go_at_call 95; (with_reducible refine (HC.out _).mono ?_); rintro e w1 ⟨rfl, b1⟩; obtain ⟨c1, f1⟩ := bcell b1; have z1 := b1.size; (try simp at z1); have l1a : w.heap.size < w1.heap.size := (by omega); have n1a := Nat.ne_of_lt l1a; have d1a := fun o => c1 (w.heap.size) o (by first | omega | (simp; done) | (simp; omega)); clear c1 f1)
  go_name_world WWx hWWx
  have hB : BlockIs WWx w1.heap.size [.string (bs nm)] 9 := by subst hWWx; exact BlockIs.new w1 [.string (bs nm)] 9
  have hA : BlockIs WWx w.heap.size [.int .i64 3, .int .i64 lock, .int .i64 lk, .int .i64 ls, .int .i64 lt, .int .i64 old, .int .i64 new, .int .i64 vn, .bool pe.en.ad.v6, .int .u64 pe.en.ad.hi, .int .u64 pe.en.ad.lo, .int .i64 pe.en.port, .bool pe.came, .int .i64 pe.since, .int .i64 pe.pts, .int .i64 pe.at_, .int .i64 pe.ping, .int .i64 pe.work, .slice ba bn bc, .slice ya yn yc, .bool true] 60 := by subst hWWx; exact ((BlockIs.new w [.int .i64 3, .int .i64 lock, .int .i64 lk, .int .i64 ls, .int .i64 lt, .int .i64 old, .int .i64 new, .int .i64 vn, .bool pe.en.ad.v6, .int .u64 pe.en.ad.hi, .int .u64 pe.en.ad.lo, .int .i64 pe.en.port, .bool pe.came, .int .i64 pe.since, .int .i64 pe.pts, .int .i64 pe.at_, .int .i64 pe.ping, .int .i64 pe.work, .slice ba bn bc, .slice ya yn yc, .bool true] _).below b1).alloc' _
  have bwx : Below w.heap.size w WWx := by subst hWWx; (repeat (first | with_reducible assumption | with_reducible exact Below.refl _ _ | with_reducible refine Below.setCell ?_ (by first | omega | (simp; done) | (simp; omega)) _ | with_reducible refine Below.alloc ?_ (by first | omega | (simp; done) | (simp; omega)) _ | with_reducible refine Below.drew ?_ | (with_reducible refine Below.trans ?_ (Below.mono (by with_reducible assumption) (by first | omega | (simp; done) | (simp; omega)))) | (refine Below.trans ?_ (Below.mono (by assumption) (by first | omega | (simp; done) | (simp; omega))))))
  have lwx : w.heap.size < w1.heap.size := by omega
  have zwx := hB.lt
  clear hWWx
  have xa0 := hA.cell (i := 0) rfl
  have xa1 := hA.cell (i := 1) rfl
  have xa20 := hA.cell (i := 20) rfl
  have xaf := hA.frozen
  have xal := hA.lt
  have own0 := owns_one hB (Nat.le_refl _)
  have bel0 := Below.refl w1.heap.size WWx
  clear hA hB
  go_wp2_with (first | (go_at_call 87; (with_reducible refine (HD.out _).mono ?_); rintro e wc1 ⟨rfl, bc1⟩; have zc1 := bc1.size; (try simp only [World.size_drew] at zc1); have belc1 := Below.trans bel0 (bc1.mono (show w1.heap.size ≤ _ from by first | omega | (simp only [World.size_drew]; omega))); have ownc1 := owns_below own0 bc1; have dc1 := fun o => belc1.cell (p := ⟨w.heap.size, o, none⟩) lwx) | (at_builtin; refine list_app strRow rfl (.tmp 15) (.tmp 19) rfl w1.heap.size _ _ _ rfl ownc1 [_] rfl rfl rfl (by omega) (by omega) (by omega) w1.heap.size WWx belc1 (Nat.le_refl _) ?_; intro vg1 wg1 owng1 belg1; have zg1 := belg1.size; have dg1 := fun o => belg1.cell (p := ⟨w.heap.size, o, none⟩) lwx) | (at_builtin; refine list_app strRow rfl (.tmp 61) (.tmp 62) rfl w1.heap.size _ _ _ rfl owng1 [_] rfl rfl rfl (by omega) (by omega) (by omega) w1.heap.size WWx belg1 (Nat.le_refl _) ?_; intro vg9 wg9 owng9 belg9; have zg9 := belg9.size; have dg9 := fun o => belg9.cell (p := ⟨w.heap.size, o, none⟩) lwx) | (go_at_call 74; (with_reducible refine (HROW.out _ _ _ _ (owns_reads owng9) (by simp; try omega) (by first | (simp [sv]; done) | (simp [sv, bs]; done)) (by simp; try omega) (by have := HL.out; omega)).mono ?_); rintro e wz ⟨rfl, bz⟩))
  go_ret
  exact ⟨ret_str (by simp), below2 (bwx.trans (belg9.mono (Nat.le_of_lt lwx))) bz⟩
set_option maxRecDepth 100000 in
set_option maxHeartbeats 16000000 in
theorem opText4M_any (lock lk ls lt old new vn : Int) (pe : Pe) (ba ya : Option Addr) (bn bc yn yc : Nat) (hlock : i64 lock) (hls : i64 ls) (hlt : i64 lt) (hold : i64 old) (hnew : i64 new) (hvn : i64 vn) (hpe : pe.en.ad.fits) (hbn : bn ≤ 1000000) (hyn : yn ≤ 1000000) (w : World) :
    Calls Try.prog 44 #[.agg #[.int .i64 4, .int .i64 lock, .int .i64 lk, .int .i64 ls, .int .i64 lt, .int .i64 old, .int .i64 new, .int .i64 vn, .bool pe.en.ad.v6, .int .u64 pe.en.ad.hi, .int .u64 pe.en.ad.lo, .int .i64 pe.en.port, .bool pe.came, .int .i64 pe.since, .int .i64 pe.pts, .int .i64 pe.at_, .int .i64 pe.ping, .int .i64 pe.work, .slice ba bn bc, .slice ya yn yc, .bool true]] w fun r w' => r = .returned (.string (bs (joinL 32 ([nameAt opN 4] ++ [decText lock] ++ [[42]])))) ∧ Below w.heap.size w w' := by
  have HC := Lib.hid (fun w => codeOp_any 4 w)
  have HD := Lib.hid (fun w => decText_any lock hlock.1 hlock.2 w)
  have hl := (Few.cons (Nat.le_trans (nameOp_len 4) (by omega)) Few.nil).app (Few.cons (Nat.le_trans (decText_len lock hlock.1 hlock.2) (by omega)) Few.nil) |>.app few42 |>.join
  generalize nameAt opN 4 = nm at *
  generalize decText lock = t at *
  have HL := Lib.hid hl; clear hl
  have HROW := Lib.hid (fun v n xs W => @row_of v n xs ([nm] ++ [t] ++ [[42]]) W)
  go_enter Try.func44, Try.ntmps44
  go_upto_region 2 with (go_at_call 95; (with_reducible refine (HC.out _).mono ?_); rintro e w1 ⟨rfl, b1⟩; obtain ⟨c1, f1⟩ := bcell b1; have z1 := b1.size; (try simp at z1); have l1a : w.heap.size < w1.heap.size := (by omega); have n1a := Nat.ne_of_lt l1a; have d1a := fun o => c1 (w.heap.size) o (by first | omega | (simp; done) | (simp; omega)); clear c1 f1)
  go_name_world WWx hWWx
  have hB : BlockIs WWx w1.heap.size [.string (bs nm)] 9 := by subst hWWx; exact BlockIs.new w1 [.string (bs nm)] 9
  have hA : BlockIs WWx w.heap.size [.int .i64 4, .int .i64 lock, .int .i64 lk, .int .i64 ls, .int .i64 lt, .int .i64 old, .int .i64 new, .int .i64 vn, .bool pe.en.ad.v6, .int .u64 pe.en.ad.hi, .int .u64 pe.en.ad.lo, .int .i64 pe.en.port, .bool pe.came, .int .i64 pe.since, .int .i64 pe.pts, .int .i64 pe.at_, .int .i64 pe.ping, .int .i64 pe.work, .slice ba bn bc, .slice ya yn yc, .bool true] 60 := by subst hWWx; exact ((BlockIs.new w [.int .i64 4, .int .i64 lock, .int .i64 lk, .int .i64 ls, .int .i64 lt, .int .i64 old, .int .i64 new, .int .i64 vn, .bool pe.en.ad.v6, .int .u64 pe.en.ad.hi, .int .u64 pe.en.ad.lo, .int .i64 pe.en.port, .bool pe.came, .int .i64 pe.since, .int .i64 pe.pts, .int .i64 pe.at_, .int .i64 pe.ping, .int .i64 pe.work, .slice ba bn bc, .slice ya yn yc, .bool true] _).below b1).alloc' _
  have bwx : Below w.heap.size w WWx := by subst hWWx; (repeat (first | with_reducible assumption | with_reducible exact Below.refl _ _ | with_reducible refine Below.setCell ?_ (by first | omega | (simp; done) | (simp; omega)) _ | with_reducible refine Below.alloc ?_ (by first | omega | (simp; done) | (simp; omega)) _ | with_reducible refine Below.drew ?_ | (with_reducible refine Below.trans ?_ (Below.mono (by with_reducible assumption) (by first | omega | (simp; done) | (simp; omega)))) | (refine Below.trans ?_ (Below.mono (by assumption) (by first | omega | (simp; done) | (simp; omega))))))
  have lwx : w.heap.size < w1.heap.size := by omega
  have zwx := hB.lt
  clear hWWx
  have xa0 := hA.cell (i := 0) rfl
  have xa1 := hA.cell (i := 1) rfl
  have xa20 := hA.cell (i := 20) rfl
  have xaf := hA.frozen
  have xal := hA.lt
  have own0 := owns_one hB (Nat.le_refl _)
  have bel0 := Below.refl w1.heap.size WWx
  clear hA hB
  go_wp2_with (first | (go_at_call 87; (with_reducible refine (HD.out _).mono ?_); rintro e wc1 ⟨rfl, bc1⟩; have zc1 := bc1.size; (try simp only [World.size_drew] at zc1); have belc1 := Below.trans bel0 (bc1.mono (show w1.heap.size ≤ _ from by first | omega | (simp only [World.size_drew]; omega))); have ownc1 := owns_below own0 bc1; have dc1 := fun o => belc1.cell (p := ⟨w.heap.size, o, none⟩) lwx) | (at_builtin; refine list_app strRow rfl (.tmp 15) (.tmp 19) rfl w1.heap.size _ _ _ rfl ownc1 [_] rfl rfl rfl (by omega) (by omega) (by omega) w1.heap.size WWx belc1 (Nat.le_refl _) ?_; intro vg1 wg1 owng1 belg1; have zg1 := belg1.size; have dg1 := fun o => belg1.cell (p := ⟨w.heap.size, o, none⟩) lwx) | (at_builtin; refine list_app strRow rfl (.tmp 61) (.tmp 62) rfl w1.heap.size _ _ _ rfl owng1 [_] rfl rfl rfl (by omega) (by omega) (by omega) w1.heap.size WWx belg1 (Nat.le_refl _) ?_; intro vg9 wg9 owng9 belg9; have zg9 := belg9.size; have dg9 := fun o => belg9.cell (p := ⟨w.heap.size, o, none⟩) lwx) | (go_at_call 74; (with_reducible refine (HROW.out _ _ _ _ (owns_reads owng9) (by simp; try omega) (by first | (simp [sv]; done) | (simp [sv, bs]; done)) (by simp; try omega) (by have := HL.out; omega)).mono ?_); rintro e wz ⟨rfl, bz⟩))
  go_ret
  exact ⟨ret_str (by simp), below2 (bwx.trans (belg9.mono (Nat.le_of_lt lwx))) bz⟩
set_option maxRecDepth 100000 in
set_option maxHeartbeats 16000000 in
theorem opText5M_any (lock lk ls lt old new vn : Int) (pe : Pe) (ba ya : Option Addr) (bn bc yn yc : Nat) (hlock : i64 lock) (hls : i64 ls) (hlt : i64 lt) (hold : i64 old) (hnew : i64 new) (hvn : i64 vn) (hpe : pe.en.ad.fits) (hbn : bn ≤ 1000000) (hyn : yn ≤ 1000000) (w : World) :
    Calls Try.prog 44 #[.agg #[.int .i64 5, .int .i64 lock, .int .i64 lk, .int .i64 ls, .int .i64 lt, .int .i64 old, .int .i64 new, .int .i64 vn, .bool pe.en.ad.v6, .int .u64 pe.en.ad.hi, .int .u64 pe.en.ad.lo, .int .i64 pe.en.port, .bool pe.came, .int .i64 pe.since, .int .i64 pe.pts, .int .i64 pe.at_, .int .i64 pe.ping, .int .i64 pe.work, .slice ba bn bc, .slice ya yn yc, .bool true]] w fun r w' => r = .returned (.string (bs (joinL 32 ([nameAt opN 5] ++ locW lk ls lt ++ [[42]])))) ∧ Below w.heap.size w w' := by
  have HC := Lib.hid (fun w => codeOp_any 5 w)
  have HW := Lib.hid (fun w => opWhere_any lk ls lt hls hlt w)
  have hfw := locW_few lk ls lt hls hlt
  have hw3 := hfw.1
  have hl := (Few.cons (Nat.le_trans (nameOp_len 5) (by omega)) Few.nil).app hfw |>.app few42 |>.join
  generalize nameAt opN 5 = nm at *
  generalize locW lk ls lt = LW at *
  have HL := Lib.hid hl; clear hl hfw
  have HROW := Lib.hid (fun v n xs W => @row_of v n xs ([nm] ++ LW ++ [[42]]) W)
  go_enter Try.func44, Try.ntmps44
  go_upto_region 2 with (go_at_call 95; (with_reducible refine (HC.out _).mono ?_); rintro e w1 ⟨rfl, b1⟩; obtain ⟨c1, f1⟩ := bcell b1; have z1 := b1.size; (try simp at z1); have l1a : w.heap.size < w1.heap.size := (by omega); have n1a := Nat.ne_of_lt l1a; have d1a := fun o => c1 (w.heap.size) o (by first | omega | (simp; done) | (simp; omega)); clear c1 f1)
  go_name_world WWx hWWx
  have hB : BlockIs WWx w1.heap.size [.string (bs nm)] 9 := by subst hWWx; exact BlockIs.new w1 [.string (bs nm)] 9
  have hA : BlockIs WWx w.heap.size [.int .i64 5, .int .i64 lock, .int .i64 lk, .int .i64 ls, .int .i64 lt, .int .i64 old, .int .i64 new, .int .i64 vn, .bool pe.en.ad.v6, .int .u64 pe.en.ad.hi, .int .u64 pe.en.ad.lo, .int .i64 pe.en.port, .bool pe.came, .int .i64 pe.since, .int .i64 pe.pts, .int .i64 pe.at_, .int .i64 pe.ping, .int .i64 pe.work, .slice ba bn bc, .slice ya yn yc, .bool true] 60 := by subst hWWx; exact ((BlockIs.new w [.int .i64 5, .int .i64 lock, .int .i64 lk, .int .i64 ls, .int .i64 lt, .int .i64 old, .int .i64 new, .int .i64 vn, .bool pe.en.ad.v6, .int .u64 pe.en.ad.hi, .int .u64 pe.en.ad.lo, .int .i64 pe.en.port, .bool pe.came, .int .i64 pe.since, .int .i64 pe.pts, .int .i64 pe.at_, .int .i64 pe.ping, .int .i64 pe.work, .slice ba bn bc, .slice ya yn yc, .bool true] _).below b1).alloc' _
  have bwx : Below w.heap.size w WWx := by subst hWWx; (repeat (first | with_reducible assumption | with_reducible exact Below.refl _ _ | with_reducible refine Below.setCell ?_ (by first | omega | (simp; done) | (simp; omega)) _ | with_reducible refine Below.alloc ?_ (by first | omega | (simp; done) | (simp; omega)) _ | with_reducible refine Below.drew ?_ | (with_reducible refine Below.trans ?_ (Below.mono (by with_reducible assumption) (by first | omega | (simp; done) | (simp; omega)))) | (refine Below.trans ?_ (Below.mono (by assumption) (by first | omega | (simp; done) | (simp; omega))))))
  have lwx : w.heap.size < w1.heap.size := by omega
  have zwx := hB.lt
  clear hWWx
  have xa0 := hA.cell (i := 0) rfl
  have xa2 := hA.cell (i := 2) rfl
  have xa3 := hA.cell (i := 3) rfl
  have xa4 := hA.cell (i := 4) rfl
  have xa20 := hA.cell (i := 20) rfl
  have xaf := hA.frozen
  have xal := hA.lt
  have own0 := owns_one hB (Nat.le_refl _)
  have bel0 := Below.refl w1.heap.size WWx
  clear hA hB
  go_wp2_with (first | (go_at_call 96; (with_reducible refine (HW.out _).mono ?_); rintro e wc1 ⟨vc1, rfl, oc1, bc1⟩; have zc1 := bc1.size; (try simp only [World.size_drew] at zc1); have belc1 := Below.trans bel0 (bc1.mono (show w1.heap.size ≤ _ from by first | omega | (simp only [World.size_drew]; omega))); have ownc1 := owns_below own0 bc1; have dc1 := fun o => belc1.cell (p := ⟨w.heap.size, o, none⟩) lwx) | (at_builtin; refine list_app_reads strRow rfl (.tmp 23) (.tmp 26) rfl w1.heap.size _ _ _ rfl ownc1 _ LW.length (LW.map sv) rfl (owns_reads oc1) (svs_one _) (by omega) (by omega) (by first | omega | (simp; omega)) w1.heap.size WWx belc1 (Nat.le_refl _) ?_; intro vg1 wg1 owng1 belg1; have zg1 := belg1.size; have dg1 := fun o => belg1.cell (p := ⟨w.heap.size, o, none⟩) lwx) | (at_builtin; refine list_app strRow rfl (.tmp 61) (.tmp 62) rfl w1.heap.size _ _ _ rfl owng1 [_] rfl rfl rfl (by omega) (by omega) (by omega) w1.heap.size WWx belg1 (Nat.le_refl _) ?_; intro vg9 wg9 owng9 belg9; have zg9 := belg9.size; have dg9 := fun o => belg9.cell (p := ⟨w.heap.size, o, none⟩) lwx) | (go_at_call 74; (with_reducible refine (HROW.out _ _ _ _ (owns_reads owng9) (by simp; try omega) (by first | (simp [sv]; done) | (simp [sv, bs]; done)) (by simp; try omega) (by have := HL.out; omega)).mono ?_); rintro e wz ⟨rfl, bz⟩))
  go_ret
  exact ⟨ret_str (by simp), below2 (bwx.trans (belg9.mono (Nat.le_of_lt lwx))) bz⟩
set_option maxRecDepth 100000 in
set_option maxHeartbeats 16000000 in
theorem opText8M_any (lock lk ls lt old new vn : Int) (pe : Pe) (ba ya : Option Addr) (bn bc yn yc : Nat) (hlock : i64 lock) (hls : i64 ls) (hlt : i64 lt) (hold : i64 old) (hnew : i64 new) (hvn : i64 vn) (hpe : pe.en.ad.fits) (hbn : bn ≤ 1000000) (hyn : yn ≤ 1000000) (w : World) :
    Calls Try.prog 44 #[.agg #[.int .i64 8, .int .i64 lock, .int .i64 lk, .int .i64 ls, .int .i64 lt, .int .i64 old, .int .i64 new, .int .i64 vn, .bool pe.en.ad.v6, .int .u64 pe.en.ad.hi, .int .u64 pe.en.ad.lo, .int .i64 pe.en.port, .bool pe.came, .int .i64 pe.since, .int .i64 pe.pts, .int .i64 pe.at_, .int .i64 pe.ping, .int .i64 pe.work, .slice ba bn bc, .slice ya yn yc, .bool true]] w fun r w' => r = .returned (.string (bs (joinL 32 ([nameAt opN 8] ++ [[42]])))) ∧ Below w.heap.size w w' := by
  have HC := Lib.hid (fun w => codeOp_any 8 w)
  have hl := (Few.cons (Nat.le_trans (nameOp_len 8) (by omega)) Few.nil) |>.app few42 |>.join
  generalize nameAt opN 8 = nm at *
  have HL := Lib.hid hl; clear hl
  have HROW := Lib.hid (fun v n xs W => @row_of v n xs ([nm] ++ [[42]]) W)
  go_enter Try.func44, Try.ntmps44
  go_upto_region 2 with (go_at_call 95; (with_reducible refine (HC.out _).mono ?_); rintro e w1 ⟨rfl, b1⟩; obtain ⟨c1, f1⟩ := bcell b1; have z1 := b1.size; (try simp at z1); have l1a : w.heap.size < w1.heap.size := (by omega); have n1a := Nat.ne_of_lt l1a; have d1a := fun o => c1 (w.heap.size) o (by first | omega | (simp; done) | (simp; omega)); clear c1 f1)
  go_name_world WWx hWWx
  have hB : BlockIs WWx w1.heap.size [.string (bs nm)] 9 := by subst hWWx; exact BlockIs.new w1 [.string (bs nm)] 9
  have hA : BlockIs WWx w.heap.size [.int .i64 8, .int .i64 lock, .int .i64 lk, .int .i64 ls, .int .i64 lt, .int .i64 old, .int .i64 new, .int .i64 vn, .bool pe.en.ad.v6, .int .u64 pe.en.ad.hi, .int .u64 pe.en.ad.lo, .int .i64 pe.en.port, .bool pe.came, .int .i64 pe.since, .int .i64 pe.pts, .int .i64 pe.at_, .int .i64 pe.ping, .int .i64 pe.work, .slice ba bn bc, .slice ya yn yc, .bool true] 60 := by subst hWWx; exact ((BlockIs.new w [.int .i64 8, .int .i64 lock, .int .i64 lk, .int .i64 ls, .int .i64 lt, .int .i64 old, .int .i64 new, .int .i64 vn, .bool pe.en.ad.v6, .int .u64 pe.en.ad.hi, .int .u64 pe.en.ad.lo, .int .i64 pe.en.port, .bool pe.came, .int .i64 pe.since, .int .i64 pe.pts, .int .i64 pe.at_, .int .i64 pe.ping, .int .i64 pe.work, .slice ba bn bc, .slice ya yn yc, .bool true] _).below b1).alloc' _
  have bwx : Below w.heap.size w WWx := by subst hWWx; (repeat (first | with_reducible assumption | with_reducible exact Below.refl _ _ | with_reducible refine Below.setCell ?_ (by first | omega | (simp; done) | (simp; omega)) _ | with_reducible refine Below.alloc ?_ (by first | omega | (simp; done) | (simp; omega)) _ | with_reducible refine Below.drew ?_ | (with_reducible refine Below.trans ?_ (Below.mono (by with_reducible assumption) (by first | omega | (simp; done) | (simp; omega)))) | (refine Below.trans ?_ (Below.mono (by assumption) (by first | omega | (simp; done) | (simp; omega))))))
  have lwx : w.heap.size < w1.heap.size := by omega
  have zwx := hB.lt
  clear hWWx
  have xa0 := hA.cell (i := 0) rfl
  have xa20 := hA.cell (i := 20) rfl
  have xaf := hA.frozen
  have xal := hA.lt
  have own0 := owns_one hB (Nat.le_refl _)
  have bel0 := Below.refl w1.heap.size WWx
  clear hA hB
  go_wp2_with (first | (at_builtin; refine list_app strRow rfl (.tmp 61) (.tmp 62) rfl w1.heap.size _ _ _ rfl own0 [_] rfl rfl rfl (by omega) (by omega) (by omega) w1.heap.size WWx bel0 (Nat.le_refl _) ?_; intro vg9 wg9 owng9 belg9; have zg9 := belg9.size; have dg9 := fun o => belg9.cell (p := ⟨w.heap.size, o, none⟩) lwx) | (go_at_call 74; (with_reducible refine (HROW.out _ _ _ _ (owns_reads owng9) (by simp; try omega) (by first | (simp [sv]; done) | (simp [sv, bs]; done)) (by simp; try omega) (by have := HL.out; omega)).mono ?_); rintro e wz ⟨rfl, bz⟩))
  go_ret
  exact ⟨ret_str (by simp), below2 (bwx.trans (belg9.mono (Nat.le_of_lt lwx))) bz⟩
set_option maxRecDepth 100000 in
set_option maxHeartbeats 16000000 in
theorem opText6M_any (lock lk ls lt old new vn : Int) (pe : Pe) (ba ya : Option Addr) (bn bc yn yc : Nat) (hlock : i64 lock) (hls : i64 ls) (hlt : i64 lt) (hold : i64 old) (hnew : i64 new) (hvn : i64 vn) (hpe : pe.en.ad.fits) (hbn : bn ≤ 1000000) (hyn : yn ≤ 1000000) (w : World) :
    Calls Try.prog 44 #[.agg #[.int .i64 6, .int .i64 lock, .int .i64 lk, .int .i64 ls, .int .i64 lt, .int .i64 old, .int .i64 new, .int .i64 vn, .bool pe.en.ad.v6, .int .u64 pe.en.ad.hi, .int .u64 pe.en.ad.lo, .int .i64 pe.en.port, .bool pe.came, .int .i64 pe.since, .int .i64 pe.pts, .int .i64 pe.at_, .int .i64 pe.ping, .int .i64 pe.work, .slice ba bn bc, .slice ya yn yc, .bool true]] w fun r w' => r = .returned (.string (bs (joinL 32 ([nameAt opN 6] ++ locW lk ls lt ++ storedW lk vn pe.en bn yn ++ [[42]])))) ∧ Below w.heap.size w w' := by
  have HC := Lib.hid (fun w => codeOp_any 6 w)
  have HW := Lib.hid (fun w => opWhere_any lk ls lt hls hlt w)
  have HS := Lib.hid (fun w => opStored_any lk vn pe ba ya bn bc yn yc hvn hpe hbn hyn w)
  have hfw := locW_few lk ls lt hls hlt
  have hfs := storedW_few lk vn pe.en bn yn hvn hpe hbn hyn
  have hw3 := hfw.1
  have hs1 := hfs.1
  have hl := (Few.cons (Nat.le_trans (nameOp_len 6) (by omega)) Few.nil).app hfw |>.app hfs |>.app few42 |>.join
  generalize nameAt opN 6 = nm at *
  generalize locW lk ls lt = LW at *
  generalize storedW lk vn pe.en bn yn = SW at *
  have HL := Lib.hid hl; clear hl hfw hfs
  have HROW := Lib.hid (fun v n xs W => @row_of v n xs ([nm] ++ LW ++ SW ++ [[42]]) W)
  go_enter Try.func44, Try.ntmps44
  go_upto_region 2 with (go_at_call 95; (with_reducible refine (HC.out _).mono ?_); rintro e w1 ⟨rfl, b1⟩; obtain ⟨c1, f1⟩ := bcell b1; have z1 := b1.size; (try simp at z1); have l1a : w.heap.size < w1.heap.size := (by omega); have n1a := Nat.ne_of_lt l1a; have d1a := fun o => c1 (w.heap.size) o (by first | omega | (simp; done) | (simp; omega)); clear c1 f1)
  go_name_world WWx hWWx
  have hB : BlockIs WWx w1.heap.size [.string (bs nm)] 9 := by subst hWWx; exact BlockIs.new w1 [.string (bs nm)] 9
  have hA : BlockIs WWx w.heap.size [.int .i64 6, .int .i64 lock, .int .i64 lk, .int .i64 ls, .int .i64 lt, .int .i64 old, .int .i64 new, .int .i64 vn, .bool pe.en.ad.v6, .int .u64 pe.en.ad.hi, .int .u64 pe.en.ad.lo, .int .i64 pe.en.port, .bool pe.came, .int .i64 pe.since, .int .i64 pe.pts, .int .i64 pe.at_, .int .i64 pe.ping, .int .i64 pe.work, .slice ba bn bc, .slice ya yn yc, .bool true] 60 := by subst hWWx; exact ((BlockIs.new w [.int .i64 6, .int .i64 lock, .int .i64 lk, .int .i64 ls, .int .i64 lt, .int .i64 old, .int .i64 new, .int .i64 vn, .bool pe.en.ad.v6, .int .u64 pe.en.ad.hi, .int .u64 pe.en.ad.lo, .int .i64 pe.en.port, .bool pe.came, .int .i64 pe.since, .int .i64 pe.pts, .int .i64 pe.at_, .int .i64 pe.ping, .int .i64 pe.work, .slice ba bn bc, .slice ya yn yc, .bool true] _).below b1).alloc' _
  have bwx : Below w.heap.size w WWx := by subst hWWx; (repeat (first | with_reducible assumption | with_reducible exact Below.refl _ _ | with_reducible refine Below.setCell ?_ (by first | omega | (simp; done) | (simp; omega)) _ | with_reducible refine Below.alloc ?_ (by first | omega | (simp; done) | (simp; omega)) _ | with_reducible refine Below.drew ?_ | (with_reducible refine Below.trans ?_ (Below.mono (by with_reducible assumption) (by first | omega | (simp; done) | (simp; omega)))) | (refine Below.trans ?_ (Below.mono (by assumption) (by first | omega | (simp; done) | (simp; omega))))))
  have lwx : w.heap.size < w1.heap.size := by omega
  have zwx := hB.lt
  clear hWWx
  have xa0 := hA.cell (i := 0) rfl
  have xa2 := hA.cell (i := 2) rfl
  have xa3 := hA.cell (i := 3) rfl
  have xa4 := hA.cell (i := 4) rfl
  have xa7 := hA.cell (i := 7) rfl
  have xa8 := hA.cell (i := 8) rfl
  have xa9 := hA.cell (i := 9) rfl
  have xa10 := hA.cell (i := 10) rfl
  have xa11 := hA.cell (i := 11) rfl
  have xa12 := hA.cell (i := 12) rfl
  have xa13 := hA.cell (i := 13) rfl
  have xa14 := hA.cell (i := 14) rfl
  have xa15 := hA.cell (i := 15) rfl
  have xa16 := hA.cell (i := 16) rfl
  have xa17 := hA.cell (i := 17) rfl
  have xa18 := hA.cell (i := 18) rfl
  have xa19 := hA.cell (i := 19) rfl
  have xa20 := hA.cell (i := 20) rfl
  have xaf := hA.frozen
  have xal := hA.lt
  have own0 := owns_one hB (Nat.le_refl _)
  have bel0 := Below.refl w1.heap.size WWx
  clear hA hB
  go_wp2_with fail
  go_region_held3 (fun w' => w'.cell? ⟨w.heap.size, 2, none⟩ = some (.int .i64 lk) ∧ w'.cell? ⟨w.heap.size, 3, none⟩ = some (.int .i64 ls) ∧ w'.cell? ⟨w.heap.size, 4, none⟩ = some (.int .i64 lt) ∧ w'.cell? ⟨w.heap.size, 7, none⟩ = some (.int .i64 vn) ∧ w'.cell? ⟨w.heap.size, 8, none⟩ = some (.bool pe.en.ad.v6) ∧ w'.cell? ⟨w.heap.size, 9, none⟩ = some (.int .u64 pe.en.ad.hi) ∧ w'.cell? ⟨w.heap.size, 10, none⟩ = some (.int .u64 pe.en.ad.lo) ∧ w'.cell? ⟨w.heap.size, 11, none⟩ = some (.int .i64 pe.en.port) ∧ w'.cell? ⟨w.heap.size, 12, none⟩ = some (.bool pe.came) ∧ w'.cell? ⟨w.heap.size, 13, none⟩ = some (.int .i64 pe.since) ∧ w'.cell? ⟨w.heap.size, 14, none⟩ = some (.int .i64 pe.pts) ∧ w'.cell? ⟨w.heap.size, 15, none⟩ = some (.int .i64 pe.at_) ∧ w'.cell? ⟨w.heap.size, 16, none⟩ = some (.int .i64 pe.ping) ∧ w'.cell? ⟨w.heap.size, 17, none⟩ = some (.int .i64 pe.work) ∧ w'.cell? ⟨w.heap.size, 18, none⟩ = some (.slice ba bn bc) ∧ w'.cell? ⟨w.heap.size, 19, none⟩ = some (.slice ya yn yc)) (first | go_keep | (simp (disch := omega) [*]; done)) (first | (go_at_call 96; (with_reducible refine (HW.out _).mono ?_); rintro e wc1 ⟨vc1, rfl, oc1, bc1⟩; have zc1 := bc1.size; (try simp only [World.size_drew] at zc1); have belc1 := Below.trans bel0.drew (bc1.mono (show w1.heap.size ≤ _ from by first | omega | (simp only [World.size_drew]; omega))); have ownc1 := owns_below (owns_drew own0) bc1; have dc1 := fun o => belc1.cell (p := ⟨w.heap.size, o, none⟩) lwx) | (refine step_app_reads strRow (by rfl) (.tmp 30) (.tmp 33) (by rfl) w1.heap.size _ _ _ (by rfl) ownc1 _ LW.length (LW.map sv) (by rfl) (owns_reads oc1) (svs_one _) (by omega) (by omega) (by first | omega | (simp; omega)) w1.heap.size WWx belc1 (Nat.le_refl _) ?_; intro vg1 wg1 owng1 belg1; have zg1 := belg1.size; have dg1 := fun o => belg1.cell (p := ⟨w.heap.size, o, none⟩) lwx) | (go_at_call 97; (with_reducible refine (HS.out _).mono ?_); rintro e wc2 ⟨vc2, rfl, oc2, bc2⟩; have zc2 := bc2.size; (try simp only [World.size_drew] at zc2); have belc2 := Below.trans belg1 (bc2.mono (show w1.heap.size ≤ _ from by first | omega | (simp only [World.size_drew]; omega))); have ownc2 := owns_below owng1 bc2; have dc2 := fun o => belc2.cell (p := ⟨w.heap.size, o, none⟩) lwx) | (refine step_app_reads strRow (by rfl) (.tmp 34) (.tmp 40) (by rfl) w1.heap.size _ _ _ (by rfl) ownc2 _ SW.length (SW.map sv) (by rfl) (owns_reads oc2) (svs_one _) (by omega) (by omega) (by first | omega | (simp; omega)) w1.heap.size WWx belc2 (Nat.le_refl _) ?_; intro vg2 wg2 owng2 belg2; have zg2 := belg2.size; have dg2 := fun o => belg2.cell (p := ⟨w.heap.size, o, none⟩) lwx))
  go_wp2_with (first | (at_builtin; refine list_app strRow rfl (.tmp 61) (.tmp 62) rfl w1.heap.size _ _ _ rfl owng2 [_] rfl rfl rfl (by omega) (by omega) (by omega) w1.heap.size WWx belg2 (Nat.le_refl _) ?_; intro vg9 wg9 owng9 belg9; have zg9 := belg9.size; have dg9 := fun o => belg9.cell (p := ⟨w.heap.size, o, none⟩) lwx) | (go_at_call 74; (with_reducible refine (HROW.out _ _ _ _ (owns_reads owng9) (by simp; try omega) (by first | (simp [sv]; done) | (simp [sv, bs]; done)) (by simp; try omega) (by have := HL.out; omega)).mono ?_); rintro e wz ⟨rfl, bz⟩))
  go_ret
  exact ⟨ret_str (by simp), below2 (bwx.trans (belg9.mono (Nat.le_of_lt lwx))) bz⟩
set_option maxRecDepth 100000 in
set_option maxHeartbeats 16000000 in
theorem opText7M_any (lock lk ls lt old new vn : Int) (pe : Pe) (ba ya : Option Addr) (bn bc yn yc : Nat) (hlock : i64 lock) (hls : i64 ls) (hlt : i64 lt) (hold : i64 old) (hnew : i64 new) (hvn : i64 vn) (hpe : pe.en.ad.fits) (hbn : bn ≤ 1000000) (hyn : yn ≤ 1000000) (w : World) :
    Calls Try.prog 44 #[.agg #[.int .i64 7, .int .i64 lock, .int .i64 lk, .int .i64 ls, .int .i64 lt, .int .i64 old, .int .i64 new, .int .i64 vn, .bool pe.en.ad.v6, .int .u64 pe.en.ad.hi, .int .u64 pe.en.ad.lo, .int .i64 pe.en.port, .bool pe.came, .int .i64 pe.since, .int .i64 pe.pts, .int .i64 pe.at_, .int .i64 pe.ping, .int .i64 pe.work, .slice ba bn bc, .slice ya yn yc, .bool true]] w fun r w' => r = .returned (.string (bs (joinL 32 ([nameAt opN 7] ++ locW lk ls lt ++ [decText old, decText new] ++ [[42]])))) ∧ Below w.heap.size w w' := by
  have HC := Lib.hid (fun w => codeOp_any 7 w)
  have HW := Lib.hid (fun w => opWhere_any lk ls lt hls hlt w)
  have HD1 := Lib.hid (fun w => decText_any old hold.1 hold.2 w)
  have HD2 := Lib.hid (fun w => decText_any new hnew.1 hnew.2 w)
  have hfw := locW_few lk ls lt hls hlt
  have hw3 := hfw.1
  have hl := (Few.cons (Nat.le_trans (nameOp_len 7) (by omega)) Few.nil).app hfw |>.app (Few.cons (Nat.le_trans (decText_len old hold.1 hold.2) (by omega)) (Few.cons (Nat.le_trans (decText_len new hnew.1 hnew.2) (by omega)) Few.nil)) |>.app few42 |>.join
  generalize nameAt opN 7 = nm at *
  generalize locW lk ls lt = LW at *
  generalize decText old = t1 at *
  generalize decText new = t2 at *
  have HL := Lib.hid hl; clear hl hfw
  have HROW := Lib.hid (fun v n xs W => @row_of v n xs ([nm] ++ LW ++ [t1, t2] ++ [[42]]) W)
  go_enter Try.func44, Try.ntmps44
  go_upto_region 2 with (go_at_call 95; (with_reducible refine (HC.out _).mono ?_); rintro e w1 ⟨rfl, b1⟩; obtain ⟨c1, f1⟩ := bcell b1; have z1 := b1.size; (try simp at z1); have l1a : w.heap.size < w1.heap.size := (by omega); have n1a := Nat.ne_of_lt l1a; have d1a := fun o => c1 (w.heap.size) o (by first | omega | (simp; done) | (simp; omega)); clear c1 f1)
  go_name_world WWx hWWx
  have hB : BlockIs WWx w1.heap.size [.string (bs nm)] 9 := by subst hWWx; exact BlockIs.new w1 [.string (bs nm)] 9
  have hA : BlockIs WWx w.heap.size [.int .i64 7, .int .i64 lock, .int .i64 lk, .int .i64 ls, .int .i64 lt, .int .i64 old, .int .i64 new, .int .i64 vn, .bool pe.en.ad.v6, .int .u64 pe.en.ad.hi, .int .u64 pe.en.ad.lo, .int .i64 pe.en.port, .bool pe.came, .int .i64 pe.since, .int .i64 pe.pts, .int .i64 pe.at_, .int .i64 pe.ping, .int .i64 pe.work, .slice ba bn bc, .slice ya yn yc, .bool true] 60 := by subst hWWx; exact ((BlockIs.new w [.int .i64 7, .int .i64 lock, .int .i64 lk, .int .i64 ls, .int .i64 lt, .int .i64 old, .int .i64 new, .int .i64 vn, .bool pe.en.ad.v6, .int .u64 pe.en.ad.hi, .int .u64 pe.en.ad.lo, .int .i64 pe.en.port, .bool pe.came, .int .i64 pe.since, .int .i64 pe.pts, .int .i64 pe.at_, .int .i64 pe.ping, .int .i64 pe.work, .slice ba bn bc, .slice ya yn yc, .bool true] _).below b1).alloc' _
  have bwx : Below w.heap.size w WWx := by subst hWWx; (repeat (first | with_reducible assumption | with_reducible exact Below.refl _ _ | with_reducible refine Below.setCell ?_ (by first | omega | (simp; done) | (simp; omega)) _ | with_reducible refine Below.alloc ?_ (by first | omega | (simp; done) | (simp; omega)) _ | with_reducible refine Below.drew ?_ | (with_reducible refine Below.trans ?_ (Below.mono (by with_reducible assumption) (by first | omega | (simp; done) | (simp; omega)))) | (refine Below.trans ?_ (Below.mono (by assumption) (by first | omega | (simp; done) | (simp; omega))))))
  have lwx : w.heap.size < w1.heap.size := by omega
  have zwx := hB.lt
  clear hWWx
  have xa0 := hA.cell (i := 0) rfl
  have xa2 := hA.cell (i := 2) rfl
  have xa3 := hA.cell (i := 3) rfl
  have xa4 := hA.cell (i := 4) rfl
  have xa5 := hA.cell (i := 5) rfl
  have xa6 := hA.cell (i := 6) rfl
  have xa20 := hA.cell (i := 20) rfl
  have xaf := hA.frozen
  have xal := hA.lt
  have own0 := owns_one hB (Nat.le_refl _)
  have bel0 := Below.refl w1.heap.size WWx
  clear hA hB
  go_wp2_with fail
  go_region_held3 (fun w' => w'.cell? ⟨w.heap.size, 2, none⟩ = some (.int .i64 lk) ∧ w'.cell? ⟨w.heap.size, 3, none⟩ = some (.int .i64 ls) ∧ w'.cell? ⟨w.heap.size, 4, none⟩ = some (.int .i64 lt) ∧ w'.cell? ⟨w.heap.size, 5, none⟩ = some (.int .i64 old) ∧ w'.cell? ⟨w.heap.size, 6, none⟩ = some (.int .i64 new)) (first | go_keep | (simp (disch := omega) [*]; done)) (first | (go_at_call 96; (with_reducible refine (HW.out _).mono ?_); rintro e wc1 ⟨vc1, rfl, oc1, bc1⟩; have zc1 := bc1.size; (try simp only [World.size_drew] at zc1); have belc1 := Below.trans bel0.drew (bc1.mono (show w1.heap.size ≤ _ from by first | omega | (simp only [World.size_drew]; omega))); have ownc1 := owns_below (owns_drew own0) bc1; have dc1 := fun o => belc1.cell (p := ⟨w.heap.size, o, none⟩) lwx) | (refine step_app_reads strRow (by rfl) (.tmp 44) (.tmp 47) (by rfl) w1.heap.size _ _ _ (by rfl) ownc1 _ LW.length (LW.map sv) (by rfl) (owns_reads oc1) (svs_one _) (by omega) (by omega) (by first | omega | (simp; omega)) w1.heap.size WWx belc1 (Nat.le_refl _) ?_; intro vg1 wg1 owng1 belg1; have zg1 := belg1.size; have dg1 := fun o => belg1.cell (p := ⟨w.heap.size, o, none⟩) lwx) | (go_at_call 87; (with_reducible refine (HD1.out _).mono ?_); rintro e wc2 ⟨rfl, bc2⟩; have zc2 := bc2.size; (try simp only [World.size_drew] at zc2); have belc2 := Below.trans belg1 (bc2.mono (show w1.heap.size ≤ _ from by first | omega | (simp only [World.size_drew]; omega))); have ownc2 := owns_below owng1 bc2; have dc2 := fun o => belc2.cell (p := ⟨w.heap.size, o, none⟩) lwx) | (go_at_call 87; (with_reducible refine (HD2.out _).mono ?_); rintro e wc3 ⟨rfl, bc3⟩; have zc3 := bc3.size; (try simp only [World.size_drew] at zc3); have belc3 := Below.trans belc2 (bc3.mono (show w1.heap.size ≤ _ from by first | omega | (simp only [World.size_drew]; omega))); have ownc3 := owns_below ownc2 bc3; have dc3 := fun o => belc3.cell (p := ⟨w.heap.size, o, none⟩) lwx) | (refine step_app_reads strRow (by rfl) (.tmp 48) (.tmp 55) (by rfl) w1.heap.size _ _ _ (by rfl) (owns_below ownc3 ((Below.refl _ _).alloc (Nat.le_refl _) _)) _ 2 [.string (bs t1), .string (bs t2)] (by rfl) ((BlockIs.new wc3 [.string (bs t1), .string (bs t2)] _).reads rfl (by omega)) (by simp [Value.oneCell']) (by omega) (by omega) (by first | omega | (simp; omega)) w1.heap.size WWx (belc3.alloc (by omega) _) (Nat.le_refl _) ?_; intro vg4 wg4 owng4 belg4; have zg4 := belg4.size; have dg4 := fun o => belg4.cell (p := ⟨w.heap.size, o, none⟩) lwx))
  go_wp2_with (first | (at_builtin; refine list_app strRow rfl (.tmp 61) (.tmp 62) rfl w1.heap.size _ _ _ rfl owng4 [_] rfl rfl rfl (by omega) (by omega) (by omega) w1.heap.size WWx belg4 (Nat.le_refl _) ?_; intro vg9 wg9 owng9 belg9; have zg9 := belg9.size; have dg9 := fun o => belg9.cell (p := ⟨w.heap.size, o, none⟩) lwx) | (go_at_call 74; (with_reducible refine (HROW.out _ _ _ _ (owns_reads owng9) (by simp; try omega) (by first | (simp [sv]; done) | (simp [sv, bs]; done)) (by simp; try omega) (by have := HL.out; omega)).mono ?_); rintro e wz ⟨rfl, bz⟩))
  go_ret
  exact ⟨ret_str (by simp), below2 (bwx.trans (belg9.mono (Nat.le_of_lt lwx))) bz⟩
set_option maxRecDepth 100000 in
set_option maxHeartbeats 16000000 in
theorem opText1_any (lock lk ls lt old new vn : Int) (pe : Pe) (ba ya : Option Addr) (bn bc yn yc : Nat) (hlock : i64 lock) (hls : i64 ls) (hlt : i64 lt) (hold : i64 old) (hnew : i64 new) (hvn : i64 vn) (hpe : pe.en.ad.fits) (hbn : bn ≤ 1000000) (hyn : yn ≤ 1000000) (w : World) :
    Calls Try.prog 44 #[.agg #[.int .i64 1, .int .i64 lock, .int .i64 lk, .int .i64 ls, .int .i64 lt, .int .i64 old, .int .i64 new, .int .i64 vn, .bool pe.en.ad.v6, .int .u64 pe.en.ad.hi, .int .u64 pe.en.ad.lo, .int .i64 pe.en.port, .bool pe.came, .int .i64 pe.since, .int .i64 pe.pts, .int .i64 pe.at_, .int .i64 pe.ping, .int .i64 pe.work, .slice ba bn bc, .slice ya yn yc, .bool false]] w fun r w' => r = .returned (.string (bs (joinL 32 ([nameAt opN 1] ++ [decText lock])))) ∧ Below w.heap.size w w' := by
  have HC := Lib.hid (fun w => codeOp_any 1 w)
  have HD := Lib.hid (fun w => decText_any lock hlock.1 hlock.2 w)
  have hl := (Few.cons (Nat.le_trans (nameOp_len 1) (by omega)) Few.nil).app (Few.cons (Nat.le_trans (decText_len lock hlock.1 hlock.2) (by omega)) Few.nil) |>.join
  generalize nameAt opN 1 = nm at *
  generalize decText lock = t at *
  have HL := Lib.hid hl; clear hl
  have HROW := Lib.hid (fun v n xs W => @row_of v n xs ([nm] ++ [t]) W)
  go_enter Try.func44, Try.ntmps44
  go_upto_region 2 with (go_at_call 95; (with_reducible refine (HC.out _).mono ?_); rintro e w1 ⟨rfl, b1⟩; obtain ⟨c1, f1⟩ := bcell b1; have z1 := b1.size; (try simp at z1); have l1a : w.heap.size < w1.heap.size := (by omega); have n1a := Nat.ne_of_lt l1a; have d1a := fun o => c1 (w.heap.size) o (by first | omega | (simp; done) | (simp; omega)); clear c1 f1)
  go_name_world WWx hWWx
  have hB : BlockIs WWx w1.heap.size [.string (bs nm)] 9 := by subst hWWx; exact BlockIs.new w1 [.string (bs nm)] 9
  have hA : BlockIs WWx w.heap.size [.int .i64 1, .int .i64 lock, .int .i64 lk, .int .i64 ls, .int .i64 lt, .int .i64 old, .int .i64 new, .int .i64 vn, .bool pe.en.ad.v6, .int .u64 pe.en.ad.hi, .int .u64 pe.en.ad.lo, .int .i64 pe.en.port, .bool pe.came, .int .i64 pe.since, .int .i64 pe.pts, .int .i64 pe.at_, .int .i64 pe.ping, .int .i64 pe.work, .slice ba bn bc, .slice ya yn yc, .bool false] 60 := by subst hWWx; exact ((BlockIs.new w [.int .i64 1, .int .i64 lock, .int .i64 lk, .int .i64 ls, .int .i64 lt, .int .i64 old, .int .i64 new, .int .i64 vn, .bool pe.en.ad.v6, .int .u64 pe.en.ad.hi, .int .u64 pe.en.ad.lo, .int .i64 pe.en.port, .bool pe.came, .int .i64 pe.since, .int .i64 pe.pts, .int .i64 pe.at_, .int .i64 pe.ping, .int .i64 pe.work, .slice ba bn bc, .slice ya yn yc, .bool false] _).below b1).alloc' _
  have bwx : Below w.heap.size w WWx := by subst hWWx; (repeat (first | with_reducible assumption | with_reducible exact Below.refl _ _ | with_reducible refine Below.setCell ?_ (by first | omega | (simp; done) | (simp; omega)) _ | with_reducible refine Below.alloc ?_ (by first | omega | (simp; done) | (simp; omega)) _ | with_reducible refine Below.drew ?_ | (with_reducible refine Below.trans ?_ (Below.mono (by with_reducible assumption) (by first | omega | (simp; done) | (simp; omega)))) | (refine Below.trans ?_ (Below.mono (by assumption) (by first | omega | (simp; done) | (simp; omega))))))
  have lwx : w.heap.size < w1.heap.size := by omega
  have zwx := hB.lt
  clear hWWx
  have xa0 := hA.cell (i := 0) rfl
  have xa1 := hA.cell (i := 1) rfl
  have xa20 := hA.cell (i := 20) rfl
  have xaf := hA.frozen
  have xal := hA.lt
  have own0 := owns_one hB (Nat.le_refl _)
  have bel0 := Below.refl w1.heap.size WWx
  clear hA hB
  go_wp2_with (first | (go_at_call 87; (with_reducible refine (HD.out _).mono ?_); rintro e wc1 ⟨rfl, bc1⟩; have zc1 := bc1.size; (try simp only [World.size_drew] at zc1); have belc1 := Below.trans bel0 (bc1.mono (show w1.heap.size ≤ _ from by first | omega | (simp only [World.size_drew]; omega))); have ownc1 := owns_below own0 bc1; have dc1 := fun o => belc1.cell (p := ⟨w.heap.size, o, none⟩) lwx) | (at_builtin; refine list_app strRow rfl (.tmp 15) (.tmp 19) rfl w1.heap.size _ _ _ rfl ownc1 [_] rfl rfl rfl (by omega) (by omega) (by omega) w1.heap.size WWx belc1 (Nat.le_refl _) ?_; intro vg1 wg1 owng1 belg1; have zg1 := belg1.size; have dg1 := fun o => belg1.cell (p := ⟨w.heap.size, o, none⟩) lwx) | (go_at_call 74; (with_reducible refine (HROW.out _ _ _ _ (owns_reads owng1) (by simp; try omega) (by first | (simp [sv]; done) | (simp [sv, bs]; done)) (by simp; try omega) (by have := HL.out; omega)).mono ?_); rintro e wz ⟨rfl, bz⟩))
  go_ret
  exact ⟨ret_str (by simp), below2 (bwx.trans (belg1.mono (Nat.le_of_lt lwx))) bz⟩
set_option maxRecDepth 100000 in
set_option maxHeartbeats 16000000 in
theorem opText2_any (lock lk ls lt old new vn : Int) (pe : Pe) (ba ya : Option Addr) (bn bc yn yc : Nat) (hlock : i64 lock) (hls : i64 ls) (hlt : i64 lt) (hold : i64 old) (hnew : i64 new) (hvn : i64 vn) (hpe : pe.en.ad.fits) (hbn : bn ≤ 1000000) (hyn : yn ≤ 1000000) (w : World) :
    Calls Try.prog 44 #[.agg #[.int .i64 2, .int .i64 lock, .int .i64 lk, .int .i64 ls, .int .i64 lt, .int .i64 old, .int .i64 new, .int .i64 vn, .bool pe.en.ad.v6, .int .u64 pe.en.ad.hi, .int .u64 pe.en.ad.lo, .int .i64 pe.en.port, .bool pe.came, .int .i64 pe.since, .int .i64 pe.pts, .int .i64 pe.at_, .int .i64 pe.ping, .int .i64 pe.work, .slice ba bn bc, .slice ya yn yc, .bool false]] w fun r w' => r = .returned (.string (bs (joinL 32 ([nameAt opN 2] ++ [decText lock])))) ∧ Below w.heap.size w w' := by
  have HC := Lib.hid (fun w => codeOp_any 2 w)
  have HD := Lib.hid (fun w => decText_any lock hlock.1 hlock.2 w)
  have hl := (Few.cons (Nat.le_trans (nameOp_len 2) (by omega)) Few.nil).app (Few.cons (Nat.le_trans (decText_len lock hlock.1 hlock.2) (by omega)) Few.nil) |>.join
  generalize nameAt opN 2 = nm at *
  generalize decText lock = t at *
  have HL := Lib.hid hl; clear hl
  have HROW := Lib.hid (fun v n xs W => @row_of v n xs ([nm] ++ [t]) W)
  go_enter Try.func44, Try.ntmps44
  go_upto_region 2 with (go_at_call 95; (with_reducible refine (HC.out _).mono ?_); rintro e w1 ⟨rfl, b1⟩; obtain ⟨c1, f1⟩ := bcell b1; have z1 := b1.size; (try simp at z1); have l1a : w.heap.size < w1.heap.size := (by omega); have n1a := Nat.ne_of_lt l1a; have d1a := fun o => c1 (w.heap.size) o (by first | omega | (simp; done) | (simp; omega)); clear c1 f1)
  go_name_world WWx hWWx
  have hB : BlockIs WWx w1.heap.size [.string (bs nm)] 9 := by subst hWWx; exact BlockIs.new w1 [.string (bs nm)] 9
  have hA : BlockIs WWx w.heap.size [.int .i64 2, .int .i64 lock, .int .i64 lk, .int .i64 ls, .int .i64 lt, .int .i64 old, .int .i64 new, .int .i64 vn, .bool pe.en.ad.v6, .int .u64 pe.en.ad.hi, .int .u64 pe.en.ad.lo, .int .i64 pe.en.port, .bool pe.came, .int .i64 pe.since, .int .i64 pe.pts, .int .i64 pe.at_, .int .i64 pe.ping, .int .i64 pe.work, .slice ba bn bc, .slice ya yn yc, .bool false] 60 := by subst hWWx; exact ((BlockIs.new w [.int .i64 2, .int .i64 lock, .int .i64 lk, .int .i64 ls, .int .i64 lt, .int .i64 old, .int .i64 new, .int .i64 vn, .bool pe.en.ad.v6, .int .u64 pe.en.ad.hi, .int .u64 pe.en.ad.lo, .int .i64 pe.en.port, .bool pe.came, .int .i64 pe.since, .int .i64 pe.pts, .int .i64 pe.at_, .int .i64 pe.ping, .int .i64 pe.work, .slice ba bn bc, .slice ya yn yc, .bool false] _).below b1).alloc' _
  have bwx : Below w.heap.size w WWx := by subst hWWx; (repeat (first | with_reducible assumption | with_reducible exact Below.refl _ _ | with_reducible refine Below.setCell ?_ (by first | omega | (simp; done) | (simp; omega)) _ | with_reducible refine Below.alloc ?_ (by first | omega | (simp; done) | (simp; omega)) _ | with_reducible refine Below.drew ?_ | (with_reducible refine Below.trans ?_ (Below.mono (by with_reducible assumption) (by first | omega | (simp; done) | (simp; omega)))) | (refine Below.trans ?_ (Below.mono (by assumption) (by first | omega | (simp; done) | (simp; omega))))))
  have lwx : w.heap.size < w1.heap.size := by omega
  have zwx := hB.lt
  clear hWWx
  have xa0 := hA.cell (i := 0) rfl
  have xa1 := hA.cell (i := 1) rfl
  have xa20 := hA.cell (i := 20) rfl
  have xaf := hA.frozen
  have xal := hA.lt
  have own0 := owns_one hB (Nat.le_refl _)
  have bel0 := Below.refl w1.heap.size WWx
  clear hA hB
  go_wp2_with (first | (go_at_call 87; (with_reducible refine (HD.out _).mono ?_); rintro e wc1 ⟨rfl, bc1⟩; have zc1 := bc1.size; (try simp only [World.size_drew] at zc1); have belc1 := Below.trans bel0 (bc1.mono (show w1.heap.size ≤ _ from by first | omega | (simp only [World.size_drew]; omega))); have ownc1 := owns_below own0 bc1; have dc1 := fun o => belc1.cell (p := ⟨w.heap.size, o, none⟩) lwx) | (at_builtin; refine list_app strRow rfl (.tmp 15) (.tmp 19) rfl w1.heap.size _ _ _ rfl ownc1 [_] rfl rfl rfl (by omega) (by omega) (by omega) w1.heap.size WWx belc1 (Nat.le_refl _) ?_; intro vg1 wg1 owng1 belg1; have zg1 := belg1.size; have dg1 := fun o => belg1.cell (p := ⟨w.heap.size, o, none⟩) lwx) | (go_at_call 74; (with_reducible refine (HROW.out _ _ _ _ (owns_reads owng1) (by simp; try omega) (by first | (simp [sv]; done) | (simp [sv, bs]; done)) (by simp; try omega) (by have := HL.out; omega)).mono ?_); rintro e wz ⟨rfl, bz⟩))
  go_ret
  exact ⟨ret_str (by simp), below2 (bwx.trans (belg1.mono (Nat.le_of_lt lwx))) bz⟩
set_option maxRecDepth 100000 in
set_option maxHeartbeats 16000000 in
theorem opText3_any (lock lk ls lt old new vn : Int) (pe : Pe) (ba ya : Option Addr) (bn bc yn yc : Nat) (hlock : i64 lock) (hls : i64 ls) (hlt : i64 lt) (hold : i64 old) (hnew : i64 new) (hvn : i64 vn) (hpe : pe.en.ad.fits) (hbn : bn ≤ 1000000) (hyn : yn ≤ 1000000) (w : World) :
    Calls Try.prog 44 #[.agg #[.int .i64 3, .int .i64 lock, .int .i64 lk, .int .i64 ls, .int .i64 lt, .int .i64 old, .int .i64 new, .int .i64 vn, .bool pe.en.ad.v6, .int .u64 pe.en.ad.hi, .int .u64 pe.en.ad.lo, .int .i64 pe.en.port, .bool pe.came, .int .i64 pe.since, .int .i64 pe.pts, .int .i64 pe.at_, .int .i64 pe.ping, .int .i64 pe.work, .slice ba bn bc, .slice ya yn yc, .bool false]] w fun r w' => r = .returned (.string (bs (joinL 32 ([nameAt opN 3] ++ [decText lock])))) ∧ Below w.heap.size w w' := by
  have HC := Lib.hid (fun w => codeOp_any 3 w)
  have HD := Lib.hid (fun w => decText_any lock hlock.1 hlock.2 w)
  have hl := (Few.cons (Nat.le_trans (nameOp_len 3) (by omega)) Few.nil).app (Few.cons (Nat.le_trans (decText_len lock hlock.1 hlock.2) (by omega)) Few.nil) |>.join
  generalize nameAt opN 3 = nm at *
  generalize decText lock = t at *
  have HL := Lib.hid hl; clear hl
  have HROW := Lib.hid (fun v n xs W => @row_of v n xs ([nm] ++ [t]) W)
  go_enter Try.func44, Try.ntmps44
  go_upto_region 2 with (go_at_call 95; (with_reducible refine (HC.out _).mono ?_); rintro e w1 ⟨rfl, b1⟩; obtain ⟨c1, f1⟩ := bcell b1; have z1 := b1.size; (try simp at z1); have l1a : w.heap.size < w1.heap.size := (by omega); have n1a := Nat.ne_of_lt l1a; have d1a := fun o => c1 (w.heap.size) o (by first | omega | (simp; done) | (simp; omega)); clear c1 f1)
  go_name_world WWx hWWx
  have hB : BlockIs WWx w1.heap.size [.string (bs nm)] 9 := by subst hWWx; exact BlockIs.new w1 [.string (bs nm)] 9
  have hA : BlockIs WWx w.heap.size [.int .i64 3, .int .i64 lock, .int .i64 lk, .int .i64 ls, .int .i64 lt, .int .i64 old, .int .i64 new, .int .i64 vn, .bool pe.en.ad.v6, .int .u64 pe.en.ad.hi, .int .u64 pe.en.ad.lo, .int .i64 pe.en.port, .bool pe.came, .int .i64 pe.since, .int .i64 pe.pts, .int .i64 pe.at_, .int .i64 pe.ping, .int .i64 pe.work, .slice ba bn bc, .slice ya yn yc, .bool false] 60 := by subst hWWx; exact ((BlockIs.new w [.int .i64 3, .int .i64 lock, .int .i64 lk, .int .i64 ls, .int .i64 lt, .int .i64 old, .int .i64 new, .int .i64 vn, .bool pe.en.ad.v6, .int .u64 pe.en.ad.hi, .int .u64 pe.en.ad.lo, .int .i64 pe.en.port, .bool pe.came, .int .i64 pe.since, .int .i64 pe.pts, .int .i64 pe.at_, .int .i64 pe.ping, .int .i64 pe.work, .slice ba bn bc, .slice ya yn yc, .bool false] _).below b1).alloc' _
  have bwx : Below w.heap.size w WWx := by subst hWWx; (repeat (first | with_reducible assumption | with_reducible exact Below.refl _ _ | with_reducible refine Below.setCell ?_ (by first | omega | (simp; done) | (simp; omega)) _ | with_reducible refine Below.alloc ?_ (by first | omega | (simp; done) | (simp; omega)) _ | with_reducible refine Below.drew ?_ | (with_reducible refine Below.trans ?_ (Below.mono (by with_reducible assumption) (by first | omega | (simp; done) | (simp; omega)))) | (refine Below.trans ?_ (Below.mono (by assumption) (by first | omega | (simp; done) | (simp; omega))))))
  have lwx : w.heap.size < w1.heap.size := by omega
  have zwx := hB.lt
  clear hWWx
  have xa0 := hA.cell (i := 0) rfl
  have xa1 := hA.cell (i := 1) rfl
  have xa20 := hA.cell (i := 20) rfl
  have xaf := hA.frozen
  have xal := hA.lt
  have own0 := owns_one hB (Nat.le_refl _)
  have bel0 := Below.refl w1.heap.size WWx
  clear hA hB
  go_wp2_with (first | (go_at_call 87; (with_reducible refine (HD.out _).mono ?_); rintro e wc1 ⟨rfl, bc1⟩; have zc1 := bc1.size; (try simp only [World.size_drew] at zc1); have belc1 := Below.trans bel0 (bc1.mono (show w1.heap.size ≤ _ from by first | omega | (simp only [World.size_drew]; omega))); have ownc1 := owns_below own0 bc1; have dc1 := fun o => belc1.cell (p := ⟨w.heap.size, o, none⟩) lwx) | (at_builtin; refine list_app strRow rfl (.tmp 15) (.tmp 19) rfl w1.heap.size _ _ _ rfl ownc1 [_] rfl rfl rfl (by omega) (by omega) (by omega) w1.heap.size WWx belc1 (Nat.le_refl _) ?_; intro vg1 wg1 owng1 belg1; have zg1 := belg1.size; have dg1 := fun o => belg1.cell (p := ⟨w.heap.size, o, none⟩) lwx) | (go_at_call 74; (with_reducible refine (HROW.out _ _ _ _ (owns_reads owng1) (by simp; try omega) (by first | (simp [sv]; done) | (simp [sv, bs]; done)) (by simp; try omega) (by have := HL.out; omega)).mono ?_); rintro e wz ⟨rfl, bz⟩))
  go_ret
  exact ⟨ret_str (by simp), below2 (bwx.trans (belg1.mono (Nat.le_of_lt lwx))) bz⟩
set_option maxRecDepth 100000 in
set_option maxHeartbeats 16000000 in
theorem opText4_any (lock lk ls lt old new vn : Int) (pe : Pe) (ba ya : Option Addr) (bn bc yn yc : Nat) (hlock : i64 lock) (hls : i64 ls) (hlt : i64 lt) (hold : i64 old) (hnew : i64 new) (hvn : i64 vn) (hpe : pe.en.ad.fits) (hbn : bn ≤ 1000000) (hyn : yn ≤ 1000000) (w : World) :
    Calls Try.prog 44 #[.agg #[.int .i64 4, .int .i64 lock, .int .i64 lk, .int .i64 ls, .int .i64 lt, .int .i64 old, .int .i64 new, .int .i64 vn, .bool pe.en.ad.v6, .int .u64 pe.en.ad.hi, .int .u64 pe.en.ad.lo, .int .i64 pe.en.port, .bool pe.came, .int .i64 pe.since, .int .i64 pe.pts, .int .i64 pe.at_, .int .i64 pe.ping, .int .i64 pe.work, .slice ba bn bc, .slice ya yn yc, .bool false]] w fun r w' => r = .returned (.string (bs (joinL 32 ([nameAt opN 4] ++ [decText lock])))) ∧ Below w.heap.size w w' := by
  have HC := Lib.hid (fun w => codeOp_any 4 w)
  have HD := Lib.hid (fun w => decText_any lock hlock.1 hlock.2 w)
  have hl := (Few.cons (Nat.le_trans (nameOp_len 4) (by omega)) Few.nil).app (Few.cons (Nat.le_trans (decText_len lock hlock.1 hlock.2) (by omega)) Few.nil) |>.join
  generalize nameAt opN 4 = nm at *
  generalize decText lock = t at *
  have HL := Lib.hid hl; clear hl
  have HROW := Lib.hid (fun v n xs W => @row_of v n xs ([nm] ++ [t]) W)
  go_enter Try.func44, Try.ntmps44
  go_upto_region 2 with (go_at_call 95; (with_reducible refine (HC.out _).mono ?_); rintro e w1 ⟨rfl, b1⟩; obtain ⟨c1, f1⟩ := bcell b1; have z1 := b1.size; (try simp at z1); have l1a : w.heap.size < w1.heap.size := (by omega); have n1a := Nat.ne_of_lt l1a; have d1a := fun o => c1 (w.heap.size) o (by first | omega | (simp; done) | (simp; omega)); clear c1 f1)
  go_name_world WWx hWWx
  have hB : BlockIs WWx w1.heap.size [.string (bs nm)] 9 := by subst hWWx; exact BlockIs.new w1 [.string (bs nm)] 9
  have hA : BlockIs WWx w.heap.size [.int .i64 4, .int .i64 lock, .int .i64 lk, .int .i64 ls, .int .i64 lt, .int .i64 old, .int .i64 new, .int .i64 vn, .bool pe.en.ad.v6, .int .u64 pe.en.ad.hi, .int .u64 pe.en.ad.lo, .int .i64 pe.en.port, .bool pe.came, .int .i64 pe.since, .int .i64 pe.pts, .int .i64 pe.at_, .int .i64 pe.ping, .int .i64 pe.work, .slice ba bn bc, .slice ya yn yc, .bool false] 60 := by subst hWWx; exact ((BlockIs.new w [.int .i64 4, .int .i64 lock, .int .i64 lk, .int .i64 ls, .int .i64 lt, .int .i64 old, .int .i64 new, .int .i64 vn, .bool pe.en.ad.v6, .int .u64 pe.en.ad.hi, .int .u64 pe.en.ad.lo, .int .i64 pe.en.port, .bool pe.came, .int .i64 pe.since, .int .i64 pe.pts, .int .i64 pe.at_, .int .i64 pe.ping, .int .i64 pe.work, .slice ba bn bc, .slice ya yn yc, .bool false] _).below b1).alloc' _
  have bwx : Below w.heap.size w WWx := by subst hWWx; (repeat (first | with_reducible assumption | with_reducible exact Below.refl _ _ | with_reducible refine Below.setCell ?_ (by first | omega | (simp; done) | (simp; omega)) _ | with_reducible refine Below.alloc ?_ (by first | omega | (simp; done) | (simp; omega)) _ | with_reducible refine Below.drew ?_ | (with_reducible refine Below.trans ?_ (Below.mono (by with_reducible assumption) (by first | omega | (simp; done) | (simp; omega)))) | (refine Below.trans ?_ (Below.mono (by assumption) (by first | omega | (simp; done) | (simp; omega))))))
  have lwx : w.heap.size < w1.heap.size := by omega
  have zwx := hB.lt
  clear hWWx
  have xa0 := hA.cell (i := 0) rfl
  have xa1 := hA.cell (i := 1) rfl
  have xa20 := hA.cell (i := 20) rfl
  have xaf := hA.frozen
  have xal := hA.lt
  have own0 := owns_one hB (Nat.le_refl _)
  have bel0 := Below.refl w1.heap.size WWx
  clear hA hB
  go_wp2_with (first | (go_at_call 87; (with_reducible refine (HD.out _).mono ?_); rintro e wc1 ⟨rfl, bc1⟩; have zc1 := bc1.size; (try simp only [World.size_drew] at zc1); have belc1 := Below.trans bel0 (bc1.mono (show w1.heap.size ≤ _ from by first | omega | (simp only [World.size_drew]; omega))); have ownc1 := owns_below own0 bc1; have dc1 := fun o => belc1.cell (p := ⟨w.heap.size, o, none⟩) lwx) | (at_builtin; refine list_app strRow rfl (.tmp 15) (.tmp 19) rfl w1.heap.size _ _ _ rfl ownc1 [_] rfl rfl rfl (by omega) (by omega) (by omega) w1.heap.size WWx belc1 (Nat.le_refl _) ?_; intro vg1 wg1 owng1 belg1; have zg1 := belg1.size; have dg1 := fun o => belg1.cell (p := ⟨w.heap.size, o, none⟩) lwx) | (go_at_call 74; (with_reducible refine (HROW.out _ _ _ _ (owns_reads owng1) (by simp; try omega) (by first | (simp [sv]; done) | (simp [sv, bs]; done)) (by simp; try omega) (by have := HL.out; omega)).mono ?_); rintro e wz ⟨rfl, bz⟩))
  go_ret
  exact ⟨ret_str (by simp), below2 (bwx.trans (belg1.mono (Nat.le_of_lt lwx))) bz⟩
set_option maxRecDepth 100000 in
set_option maxHeartbeats 16000000 in
theorem opText5_any (lock lk ls lt old new vn : Int) (pe : Pe) (ba ya : Option Addr) (bn bc yn yc : Nat) (hlock : i64 lock) (hls : i64 ls) (hlt : i64 lt) (hold : i64 old) (hnew : i64 new) (hvn : i64 vn) (hpe : pe.en.ad.fits) (hbn : bn ≤ 1000000) (hyn : yn ≤ 1000000) (w : World) :
    Calls Try.prog 44 #[.agg #[.int .i64 5, .int .i64 lock, .int .i64 lk, .int .i64 ls, .int .i64 lt, .int .i64 old, .int .i64 new, .int .i64 vn, .bool pe.en.ad.v6, .int .u64 pe.en.ad.hi, .int .u64 pe.en.ad.lo, .int .i64 pe.en.port, .bool pe.came, .int .i64 pe.since, .int .i64 pe.pts, .int .i64 pe.at_, .int .i64 pe.ping, .int .i64 pe.work, .slice ba bn bc, .slice ya yn yc, .bool false]] w fun r w' => r = .returned (.string (bs (joinL 32 ([nameAt opN 5] ++ locW lk ls lt)))) ∧ Below w.heap.size w w' := by
  have HC := Lib.hid (fun w => codeOp_any 5 w)
  have HW := Lib.hid (fun w => opWhere_any lk ls lt hls hlt w)
  have hfw := locW_few lk ls lt hls hlt
  have hw3 := hfw.1
  have hl := (Few.cons (Nat.le_trans (nameOp_len 5) (by omega)) Few.nil).app hfw |>.join
  generalize nameAt opN 5 = nm at *
  generalize locW lk ls lt = LW at *
  have HL := Lib.hid hl; clear hl hfw
  have HROW := Lib.hid (fun v n xs W => @row_of v n xs ([nm] ++ LW) W)
  go_enter Try.func44, Try.ntmps44
  go_upto_region 2 with (go_at_call 95; (with_reducible refine (HC.out _).mono ?_); rintro e w1 ⟨rfl, b1⟩; obtain ⟨c1, f1⟩ := bcell b1; have z1 := b1.size; (try simp at z1); have l1a : w.heap.size < w1.heap.size := (by omega); have n1a := Nat.ne_of_lt l1a; have d1a := fun o => c1 (w.heap.size) o (by first | omega | (simp; done) | (simp; omega)); clear c1 f1)
  go_name_world WWx hWWx
  have hB : BlockIs WWx w1.heap.size [.string (bs nm)] 9 := by subst hWWx; exact BlockIs.new w1 [.string (bs nm)] 9
  have hA : BlockIs WWx w.heap.size [.int .i64 5, .int .i64 lock, .int .i64 lk, .int .i64 ls, .int .i64 lt, .int .i64 old, .int .i64 new, .int .i64 vn, .bool pe.en.ad.v6, .int .u64 pe.en.ad.hi, .int .u64 pe.en.ad.lo, .int .i64 pe.en.port, .bool pe.came, .int .i64 pe.since, .int .i64 pe.pts, .int .i64 pe.at_, .int .i64 pe.ping, .int .i64 pe.work, .slice ba bn bc, .slice ya yn yc, .bool false] 60 := by subst hWWx; exact ((BlockIs.new w [.int .i64 5, .int .i64 lock, .int .i64 lk, .int .i64 ls, .int .i64 lt, .int .i64 old, .int .i64 new, .int .i64 vn, .bool pe.en.ad.v6, .int .u64 pe.en.ad.hi, .int .u64 pe.en.ad.lo, .int .i64 pe.en.port, .bool pe.came, .int .i64 pe.since, .int .i64 pe.pts, .int .i64 pe.at_, .int .i64 pe.ping, .int .i64 pe.work, .slice ba bn bc, .slice ya yn yc, .bool false] _).below b1).alloc' _
  have bwx : Below w.heap.size w WWx := by subst hWWx; (repeat (first | with_reducible assumption | with_reducible exact Below.refl _ _ | with_reducible refine Below.setCell ?_ (by first | omega | (simp; done) | (simp; omega)) _ | with_reducible refine Below.alloc ?_ (by first | omega | (simp; done) | (simp; omega)) _ | with_reducible refine Below.drew ?_ | (with_reducible refine Below.trans ?_ (Below.mono (by with_reducible assumption) (by first | omega | (simp; done) | (simp; omega)))) | (refine Below.trans ?_ (Below.mono (by assumption) (by first | omega | (simp; done) | (simp; omega))))))
  have lwx : w.heap.size < w1.heap.size := by omega
  have zwx := hB.lt
  clear hWWx
  have xa0 := hA.cell (i := 0) rfl
  have xa2 := hA.cell (i := 2) rfl
  have xa3 := hA.cell (i := 3) rfl
  have xa4 := hA.cell (i := 4) rfl
  have xa20 := hA.cell (i := 20) rfl
  have xaf := hA.frozen
  have xal := hA.lt
  have own0 := owns_one hB (Nat.le_refl _)
  have bel0 := Below.refl w1.heap.size WWx
  clear hA hB
  go_wp2_with (first | (go_at_call 96; (with_reducible refine (HW.out _).mono ?_); rintro e wc1 ⟨vc1, rfl, oc1, bc1⟩; have zc1 := bc1.size; (try simp only [World.size_drew] at zc1); have belc1 := Below.trans bel0 (bc1.mono (show w1.heap.size ≤ _ from by first | omega | (simp only [World.size_drew]; omega))); have ownc1 := owns_below own0 bc1; have dc1 := fun o => belc1.cell (p := ⟨w.heap.size, o, none⟩) lwx) | (at_builtin; refine list_app_reads strRow rfl (.tmp 23) (.tmp 26) rfl w1.heap.size _ _ _ rfl ownc1 _ LW.length (LW.map sv) rfl (owns_reads oc1) (svs_one _) (by omega) (by omega) (by first | omega | (simp; omega)) w1.heap.size WWx belc1 (Nat.le_refl _) ?_; intro vg1 wg1 owng1 belg1; have zg1 := belg1.size; have dg1 := fun o => belg1.cell (p := ⟨w.heap.size, o, none⟩) lwx) | (go_at_call 74; (with_reducible refine (HROW.out _ _ _ _ (owns_reads owng1) (by simp; try omega) (by first | (simp [sv]; done) | (simp [sv, bs]; done)) (by simp; try omega) (by have := HL.out; omega)).mono ?_); rintro e wz ⟨rfl, bz⟩))
  go_ret
  exact ⟨ret_str (by simp), below2 (bwx.trans (belg1.mono (Nat.le_of_lt lwx))) bz⟩
set_option maxRecDepth 100000 in
set_option maxHeartbeats 16000000 in
theorem opText8_any (lock lk ls lt old new vn : Int) (pe : Pe) (ba ya : Option Addr) (bn bc yn yc : Nat) (hlock : i64 lock) (hls : i64 ls) (hlt : i64 lt) (hold : i64 old) (hnew : i64 new) (hvn : i64 vn) (hpe : pe.en.ad.fits) (hbn : bn ≤ 1000000) (hyn : yn ≤ 1000000) (w : World) :
    Calls Try.prog 44 #[.agg #[.int .i64 8, .int .i64 lock, .int .i64 lk, .int .i64 ls, .int .i64 lt, .int .i64 old, .int .i64 new, .int .i64 vn, .bool pe.en.ad.v6, .int .u64 pe.en.ad.hi, .int .u64 pe.en.ad.lo, .int .i64 pe.en.port, .bool pe.came, .int .i64 pe.since, .int .i64 pe.pts, .int .i64 pe.at_, .int .i64 pe.ping, .int .i64 pe.work, .slice ba bn bc, .slice ya yn yc, .bool false]] w fun r w' => r = .returned (.string (bs (joinL 32 ([nameAt opN 8])))) ∧ Below w.heap.size w w' := by
  have HC := Lib.hid (fun w => codeOp_any 8 w)
  have hl := (Few.cons (Nat.le_trans (nameOp_len 8) (by omega)) Few.nil) |>.join
  generalize nameAt opN 8 = nm at *
  have HL := Lib.hid hl; clear hl
  have HROW := Lib.hid (fun v n xs W => @row_of v n xs ([nm]) W)
  go_enter Try.func44, Try.ntmps44
  go_upto_region 2 with (go_at_call 95; (with_reducible refine (HC.out _).mono ?_); rintro e w1 ⟨rfl, b1⟩; obtain ⟨c1, f1⟩ := bcell b1; have z1 := b1.size; (try simp at z1); have l1a : w.heap.size < w1.heap.size := (by omega); have n1a := Nat.ne_of_lt l1a; have d1a := fun o => c1 (w.heap.size) o (by first | omega | (simp; done) | (simp; omega)); clear c1 f1)
  go_name_world WWx hWWx
  have hB : BlockIs WWx w1.heap.size [.string (bs nm)] 9 := by subst hWWx; exact BlockIs.new w1 [.string (bs nm)] 9
  have hA : BlockIs WWx w.heap.size [.int .i64 8, .int .i64 lock, .int .i64 lk, .int .i64 ls, .int .i64 lt, .int .i64 old, .int .i64 new, .int .i64 vn, .bool pe.en.ad.v6, .int .u64 pe.en.ad.hi, .int .u64 pe.en.ad.lo, .int .i64 pe.en.port, .bool pe.came, .int .i64 pe.since, .int .i64 pe.pts, .int .i64 pe.at_, .int .i64 pe.ping, .int .i64 pe.work, .slice ba bn bc, .slice ya yn yc, .bool false] 60 := by subst hWWx; exact ((BlockIs.new w [.int .i64 8, .int .i64 lock, .int .i64 lk, .int .i64 ls, .int .i64 lt, .int .i64 old, .int .i64 new, .int .i64 vn, .bool pe.en.ad.v6, .int .u64 pe.en.ad.hi, .int .u64 pe.en.ad.lo, .int .i64 pe.en.port, .bool pe.came, .int .i64 pe.since, .int .i64 pe.pts, .int .i64 pe.at_, .int .i64 pe.ping, .int .i64 pe.work, .slice ba bn bc, .slice ya yn yc, .bool false] _).below b1).alloc' _
  have bwx : Below w.heap.size w WWx := by subst hWWx; (repeat (first | with_reducible assumption | with_reducible exact Below.refl _ _ | with_reducible refine Below.setCell ?_ (by first | omega | (simp; done) | (simp; omega)) _ | with_reducible refine Below.alloc ?_ (by first | omega | (simp; done) | (simp; omega)) _ | with_reducible refine Below.drew ?_ | (with_reducible refine Below.trans ?_ (Below.mono (by with_reducible assumption) (by first | omega | (simp; done) | (simp; omega)))) | (refine Below.trans ?_ (Below.mono (by assumption) (by first | omega | (simp; done) | (simp; omega))))))
  have lwx : w.heap.size < w1.heap.size := by omega
  have zwx := hB.lt
  clear hWWx
  have xa0 := hA.cell (i := 0) rfl
  have xa20 := hA.cell (i := 20) rfl
  have xaf := hA.frozen
  have xal := hA.lt
  have own0 := owns_one hB (Nat.le_refl _)
  have bel0 := Below.refl w1.heap.size WWx
  clear hA hB
  go_wp2_with (first | (go_at_call 74; (with_reducible refine (HROW.out _ _ _ _ (owns_reads own0) (by simp; try omega) (by first | (simp [sv]; done) | (simp [sv, bs]; done)) (by simp; try omega) (by have := HL.out; omega)).mono ?_); rintro e wz ⟨rfl, bz⟩))
  go_ret
  exact ⟨ret_str (by simp), below2 (bwx.trans (bel0.mono (Nat.le_of_lt lwx))) bz⟩
set_option maxRecDepth 100000 in
set_option maxHeartbeats 16000000 in
theorem opText6_any (lock lk ls lt old new vn : Int) (pe : Pe) (ba ya : Option Addr) (bn bc yn yc : Nat) (hlock : i64 lock) (hls : i64 ls) (hlt : i64 lt) (hold : i64 old) (hnew : i64 new) (hvn : i64 vn) (hpe : pe.en.ad.fits) (hbn : bn ≤ 1000000) (hyn : yn ≤ 1000000) (w : World) :
    Calls Try.prog 44 #[.agg #[.int .i64 6, .int .i64 lock, .int .i64 lk, .int .i64 ls, .int .i64 lt, .int .i64 old, .int .i64 new, .int .i64 vn, .bool pe.en.ad.v6, .int .u64 pe.en.ad.hi, .int .u64 pe.en.ad.lo, .int .i64 pe.en.port, .bool pe.came, .int .i64 pe.since, .int .i64 pe.pts, .int .i64 pe.at_, .int .i64 pe.ping, .int .i64 pe.work, .slice ba bn bc, .slice ya yn yc, .bool false]] w fun r w' => r = .returned (.string (bs (joinL 32 ([nameAt opN 6] ++ locW lk ls lt ++ storedW lk vn pe.en bn yn)))) ∧ Below w.heap.size w w' := by
  have HC := Lib.hid (fun w => codeOp_any 6 w)
  have HW := Lib.hid (fun w => opWhere_any lk ls lt hls hlt w)
  have HS := Lib.hid (fun w => opStored_any lk vn pe ba ya bn bc yn yc hvn hpe hbn hyn w)
  have hfw := locW_few lk ls lt hls hlt
  have hfs := storedW_few lk vn pe.en bn yn hvn hpe hbn hyn
  have hw3 := hfw.1
  have hs1 := hfs.1
  have hl := (Few.cons (Nat.le_trans (nameOp_len 6) (by omega)) Few.nil).app hfw |>.app hfs |>.join
  generalize nameAt opN 6 = nm at *
  generalize locW lk ls lt = LW at *
  generalize storedW lk vn pe.en bn yn = SW at *
  have HL := Lib.hid hl; clear hl hfw hfs
  have HROW := Lib.hid (fun v n xs W => @row_of v n xs ([nm] ++ LW ++ SW) W)
  go_enter Try.func44, Try.ntmps44
  go_upto_region 2 with (go_at_call 95; (with_reducible refine (HC.out _).mono ?_); rintro e w1 ⟨rfl, b1⟩; obtain ⟨c1, f1⟩ := bcell b1; have z1 := b1.size; (try simp at z1); have l1a : w.heap.size < w1.heap.size := (by omega); have n1a := Nat.ne_of_lt l1a; have d1a := fun o => c1 (w.heap.size) o (by first | omega | (simp; done) | (simp; omega)); clear c1 f1)
  go_name_world WWx hWWx
  have hB : BlockIs WWx w1.heap.size [.string (bs nm)] 9 := by subst hWWx; exact BlockIs.new w1 [.string (bs nm)] 9
  have hA : BlockIs WWx w.heap.size [.int .i64 6, .int .i64 lock, .int .i64 lk, .int .i64 ls, .int .i64 lt, .int .i64 old, .int .i64 new, .int .i64 vn, .bool pe.en.ad.v6, .int .u64 pe.en.ad.hi, .int .u64 pe.en.ad.lo, .int .i64 pe.en.port, .bool pe.came, .int .i64 pe.since, .int .i64 pe.pts, .int .i64 pe.at_, .int .i64 pe.ping, .int .i64 pe.work, .slice ba bn bc, .slice ya yn yc, .bool false] 60 := by subst hWWx; exact ((BlockIs.new w [.int .i64 6, .int .i64 lock, .int .i64 lk, .int .i64 ls, .int .i64 lt, .int .i64 old, .int .i64 new, .int .i64 vn, .bool pe.en.ad.v6, .int .u64 pe.en.ad.hi, .int .u64 pe.en.ad.lo, .int .i64 pe.en.port, .bool pe.came, .int .i64 pe.since, .int .i64 pe.pts, .int .i64 pe.at_, .int .i64 pe.ping, .int .i64 pe.work, .slice ba bn bc, .slice ya yn yc, .bool false] _).below b1).alloc' _
  have bwx : Below w.heap.size w WWx := by subst hWWx; (repeat (first | with_reducible assumption | with_reducible exact Below.refl _ _ | with_reducible refine Below.setCell ?_ (by first | omega | (simp; done) | (simp; omega)) _ | with_reducible refine Below.alloc ?_ (by first | omega | (simp; done) | (simp; omega)) _ | with_reducible refine Below.drew ?_ | (with_reducible refine Below.trans ?_ (Below.mono (by with_reducible assumption) (by first | omega | (simp; done) | (simp; omega)))) | (refine Below.trans ?_ (Below.mono (by assumption) (by first | omega | (simp; done) | (simp; omega))))))
  have lwx : w.heap.size < w1.heap.size := by omega
  have zwx := hB.lt
  clear hWWx
  have xa0 := hA.cell (i := 0) rfl
  have xa2 := hA.cell (i := 2) rfl
  have xa3 := hA.cell (i := 3) rfl
  have xa4 := hA.cell (i := 4) rfl
  have xa7 := hA.cell (i := 7) rfl
  have xa8 := hA.cell (i := 8) rfl
  have xa9 := hA.cell (i := 9) rfl
  have xa10 := hA.cell (i := 10) rfl
  have xa11 := hA.cell (i := 11) rfl
  have xa12 := hA.cell (i := 12) rfl
  have xa13 := hA.cell (i := 13) rfl
  have xa14 := hA.cell (i := 14) rfl
  have xa15 := hA.cell (i := 15) rfl
  have xa16 := hA.cell (i := 16) rfl
  have xa17 := hA.cell (i := 17) rfl
  have xa18 := hA.cell (i := 18) rfl
  have xa19 := hA.cell (i := 19) rfl
  have xa20 := hA.cell (i := 20) rfl
  have xaf := hA.frozen
  have xal := hA.lt
  have own0 := owns_one hB (Nat.le_refl _)
  have bel0 := Below.refl w1.heap.size WWx
  clear hA hB
  go_wp2_with fail
  go_region_held3 (fun w' => w'.cell? ⟨w.heap.size, 2, none⟩ = some (.int .i64 lk) ∧ w'.cell? ⟨w.heap.size, 3, none⟩ = some (.int .i64 ls) ∧ w'.cell? ⟨w.heap.size, 4, none⟩ = some (.int .i64 lt) ∧ w'.cell? ⟨w.heap.size, 7, none⟩ = some (.int .i64 vn) ∧ w'.cell? ⟨w.heap.size, 8, none⟩ = some (.bool pe.en.ad.v6) ∧ w'.cell? ⟨w.heap.size, 9, none⟩ = some (.int .u64 pe.en.ad.hi) ∧ w'.cell? ⟨w.heap.size, 10, none⟩ = some (.int .u64 pe.en.ad.lo) ∧ w'.cell? ⟨w.heap.size, 11, none⟩ = some (.int .i64 pe.en.port) ∧ w'.cell? ⟨w.heap.size, 12, none⟩ = some (.bool pe.came) ∧ w'.cell? ⟨w.heap.size, 13, none⟩ = some (.int .i64 pe.since) ∧ w'.cell? ⟨w.heap.size, 14, none⟩ = some (.int .i64 pe.pts) ∧ w'.cell? ⟨w.heap.size, 15, none⟩ = some (.int .i64 pe.at_) ∧ w'.cell? ⟨w.heap.size, 16, none⟩ = some (.int .i64 pe.ping) ∧ w'.cell? ⟨w.heap.size, 17, none⟩ = some (.int .i64 pe.work) ∧ w'.cell? ⟨w.heap.size, 18, none⟩ = some (.slice ba bn bc) ∧ w'.cell? ⟨w.heap.size, 19, none⟩ = some (.slice ya yn yc)) (first | go_keep | (simp (disch := omega) [*]; done)) (first | (go_at_call 96; (with_reducible refine (HW.out _).mono ?_); rintro e wc1 ⟨vc1, rfl, oc1, bc1⟩; have zc1 := bc1.size; (try simp only [World.size_drew] at zc1); have belc1 := Below.trans bel0.drew (bc1.mono (show w1.heap.size ≤ _ from by first | omega | (simp only [World.size_drew]; omega))); have ownc1 := owns_below (owns_drew own0) bc1; have dc1 := fun o => belc1.cell (p := ⟨w.heap.size, o, none⟩) lwx) | (refine step_app_reads strRow (by rfl) (.tmp 30) (.tmp 33) (by rfl) w1.heap.size _ _ _ (by rfl) ownc1 _ LW.length (LW.map sv) (by rfl) (owns_reads oc1) (svs_one _) (by omega) (by omega) (by first | omega | (simp; omega)) w1.heap.size WWx belc1 (Nat.le_refl _) ?_; intro vg1 wg1 owng1 belg1; have zg1 := belg1.size; have dg1 := fun o => belg1.cell (p := ⟨w.heap.size, o, none⟩) lwx) | (go_at_call 97; (with_reducible refine (HS.out _).mono ?_); rintro e wc2 ⟨vc2, rfl, oc2, bc2⟩; have zc2 := bc2.size; (try simp only [World.size_drew] at zc2); have belc2 := Below.trans belg1 (bc2.mono (show w1.heap.size ≤ _ from by first | omega | (simp only [World.size_drew]; omega))); have ownc2 := owns_below owng1 bc2; have dc2 := fun o => belc2.cell (p := ⟨w.heap.size, o, none⟩) lwx) | (refine step_app_reads strRow (by rfl) (.tmp 34) (.tmp 40) (by rfl) w1.heap.size _ _ _ (by rfl) ownc2 _ SW.length (SW.map sv) (by rfl) (owns_reads oc2) (svs_one _) (by omega) (by omega) (by first | omega | (simp; omega)) w1.heap.size WWx belc2 (Nat.le_refl _) ?_; intro vg2 wg2 owng2 belg2; have zg2 := belg2.size; have dg2 := fun o => belg2.cell (p := ⟨w.heap.size, o, none⟩) lwx))
  go_wp2_with (first | (go_at_call 74; (with_reducible refine (HROW.out _ _ _ _ (owns_reads owng2) (by simp; try omega) (by first | (simp [sv]; done) | (simp [sv, bs]; done)) (by simp; try omega) (by have := HL.out; omega)).mono ?_); rintro e wz ⟨rfl, bz⟩))
  go_ret
  exact ⟨ret_str (by simp), below2 (bwx.trans (belg2.mono (Nat.le_of_lt lwx))) bz⟩
set_option maxRecDepth 100000 in
set_option maxHeartbeats 16000000 in
theorem opText7_any (lock lk ls lt old new vn : Int) (pe : Pe) (ba ya : Option Addr) (bn bc yn yc : Nat) (hlock : i64 lock) (hls : i64 ls) (hlt : i64 lt) (hold : i64 old) (hnew : i64 new) (hvn : i64 vn) (hpe : pe.en.ad.fits) (hbn : bn ≤ 1000000) (hyn : yn ≤ 1000000) (w : World) :
    Calls Try.prog 44 #[.agg #[.int .i64 7, .int .i64 lock, .int .i64 lk, .int .i64 ls, .int .i64 lt, .int .i64 old, .int .i64 new, .int .i64 vn, .bool pe.en.ad.v6, .int .u64 pe.en.ad.hi, .int .u64 pe.en.ad.lo, .int .i64 pe.en.port, .bool pe.came, .int .i64 pe.since, .int .i64 pe.pts, .int .i64 pe.at_, .int .i64 pe.ping, .int .i64 pe.work, .slice ba bn bc, .slice ya yn yc, .bool false]] w fun r w' => r = .returned (.string (bs (joinL 32 ([nameAt opN 7] ++ locW lk ls lt ++ [decText old, decText new])))) ∧ Below w.heap.size w w' := by
  have HC := Lib.hid (fun w => codeOp_any 7 w)
  have HW := Lib.hid (fun w => opWhere_any lk ls lt hls hlt w)
  have HD1 := Lib.hid (fun w => decText_any old hold.1 hold.2 w)
  have HD2 := Lib.hid (fun w => decText_any new hnew.1 hnew.2 w)
  have hfw := locW_few lk ls lt hls hlt
  have hw3 := hfw.1
  have hl := (Few.cons (Nat.le_trans (nameOp_len 7) (by omega)) Few.nil).app hfw |>.app (Few.cons (Nat.le_trans (decText_len old hold.1 hold.2) (by omega)) (Few.cons (Nat.le_trans (decText_len new hnew.1 hnew.2) (by omega)) Few.nil)) |>.join
  generalize nameAt opN 7 = nm at *
  generalize locW lk ls lt = LW at *
  generalize decText old = t1 at *
  generalize decText new = t2 at *
  have HL := Lib.hid hl; clear hl hfw
  have HROW := Lib.hid (fun v n xs W => @row_of v n xs ([nm] ++ LW ++ [t1, t2]) W)
  go_enter Try.func44, Try.ntmps44
  go_upto_region 2 with (go_at_call 95; (with_reducible refine (HC.out _).mono ?_); rintro e w1 ⟨rfl, b1⟩; obtain ⟨c1, f1⟩ := bcell b1; have z1 := b1.size; (try simp at z1); have l1a : w.heap.size < w1.heap.size := (by omega); have n1a := Nat.ne_of_lt l1a; have d1a := fun o => c1 (w.heap.size) o (by first | omega | (simp; done) | (simp; omega)); clear c1 f1)
  go_name_world WWx hWWx
  have hB : BlockIs WWx w1.heap.size [.string (bs nm)] 9 := by subst hWWx; exact BlockIs.new w1 [.string (bs nm)] 9
  have hA : BlockIs WWx w.heap.size [.int .i64 7, .int .i64 lock, .int .i64 lk, .int .i64 ls, .int .i64 lt, .int .i64 old, .int .i64 new, .int .i64 vn, .bool pe.en.ad.v6, .int .u64 pe.en.ad.hi, .int .u64 pe.en.ad.lo, .int .i64 pe.en.port, .bool pe.came, .int .i64 pe.since, .int .i64 pe.pts, .int .i64 pe.at_, .int .i64 pe.ping, .int .i64 pe.work, .slice ba bn bc, .slice ya yn yc, .bool false] 60 := by subst hWWx; exact ((BlockIs.new w [.int .i64 7, .int .i64 lock, .int .i64 lk, .int .i64 ls, .int .i64 lt, .int .i64 old, .int .i64 new, .int .i64 vn, .bool pe.en.ad.v6, .int .u64 pe.en.ad.hi, .int .u64 pe.en.ad.lo, .int .i64 pe.en.port, .bool pe.came, .int .i64 pe.since, .int .i64 pe.pts, .int .i64 pe.at_, .int .i64 pe.ping, .int .i64 pe.work, .slice ba bn bc, .slice ya yn yc, .bool false] _).below b1).alloc' _
  have bwx : Below w.heap.size w WWx := by subst hWWx; (repeat (first | with_reducible assumption | with_reducible exact Below.refl _ _ | with_reducible refine Below.setCell ?_ (by first | omega | (simp; done) | (simp; omega)) _ | with_reducible refine Below.alloc ?_ (by first | omega | (simp; done) | (simp; omega)) _ | with_reducible refine Below.drew ?_ | (with_reducible refine Below.trans ?_ (Below.mono (by with_reducible assumption) (by first | omega | (simp; done) | (simp; omega)))) | (refine Below.trans ?_ (Below.mono (by assumption) (by first | omega | (simp; done) | (simp; omega))))))
  have lwx : w.heap.size < w1.heap.size := by omega
  have zwx := hB.lt
  clear hWWx
  have xa0 := hA.cell (i := 0) rfl
  have xa2 := hA.cell (i := 2) rfl
  have xa3 := hA.cell (i := 3) rfl
  have xa4 := hA.cell (i := 4) rfl
  have xa5 := hA.cell (i := 5) rfl
  have xa6 := hA.cell (i := 6) rfl
  have xa20 := hA.cell (i := 20) rfl
  have xaf := hA.frozen
  have xal := hA.lt
  have own0 := owns_one hB (Nat.le_refl _)
  have bel0 := Below.refl w1.heap.size WWx
  clear hA hB
  go_wp2_with fail
  go_region_held3 (fun w' => w'.cell? ⟨w.heap.size, 2, none⟩ = some (.int .i64 lk) ∧ w'.cell? ⟨w.heap.size, 3, none⟩ = some (.int .i64 ls) ∧ w'.cell? ⟨w.heap.size, 4, none⟩ = some (.int .i64 lt) ∧ w'.cell? ⟨w.heap.size, 5, none⟩ = some (.int .i64 old) ∧ w'.cell? ⟨w.heap.size, 6, none⟩ = some (.int .i64 new)) (first | go_keep | (simp (disch := omega) [*]; done)) (first | (go_at_call 96; (with_reducible refine (HW.out _).mono ?_); rintro e wc1 ⟨vc1, rfl, oc1, bc1⟩; have zc1 := bc1.size; (try simp only [World.size_drew] at zc1); have belc1 := Below.trans bel0.drew (bc1.mono (show w1.heap.size ≤ _ from by first | omega | (simp only [World.size_drew]; omega))); have ownc1 := owns_below (owns_drew own0) bc1; have dc1 := fun o => belc1.cell (p := ⟨w.heap.size, o, none⟩) lwx) | (refine step_app_reads strRow (by rfl) (.tmp 44) (.tmp 47) (by rfl) w1.heap.size _ _ _ (by rfl) ownc1 _ LW.length (LW.map sv) (by rfl) (owns_reads oc1) (svs_one _) (by omega) (by omega) (by first | omega | (simp; omega)) w1.heap.size WWx belc1 (Nat.le_refl _) ?_; intro vg1 wg1 owng1 belg1; have zg1 := belg1.size; have dg1 := fun o => belg1.cell (p := ⟨w.heap.size, o, none⟩) lwx) | (go_at_call 87; (with_reducible refine (HD1.out _).mono ?_); rintro e wc2 ⟨rfl, bc2⟩; have zc2 := bc2.size; (try simp only [World.size_drew] at zc2); have belc2 := Below.trans belg1 (bc2.mono (show w1.heap.size ≤ _ from by first | omega | (simp only [World.size_drew]; omega))); have ownc2 := owns_below owng1 bc2; have dc2 := fun o => belc2.cell (p := ⟨w.heap.size, o, none⟩) lwx) | (go_at_call 87; (with_reducible refine (HD2.out _).mono ?_); rintro e wc3 ⟨rfl, bc3⟩; have zc3 := bc3.size; (try simp only [World.size_drew] at zc3); have belc3 := Below.trans belc2 (bc3.mono (show w1.heap.size ≤ _ from by first | omega | (simp only [World.size_drew]; omega))); have ownc3 := owns_below ownc2 bc3; have dc3 := fun o => belc3.cell (p := ⟨w.heap.size, o, none⟩) lwx) | (refine step_app_reads strRow (by rfl) (.tmp 48) (.tmp 55) (by rfl) w1.heap.size _ _ _ (by rfl) (owns_below ownc3 ((Below.refl _ _).alloc (Nat.le_refl _) _)) _ 2 [.string (bs t1), .string (bs t2)] (by rfl) ((BlockIs.new wc3 [.string (bs t1), .string (bs t2)] _).reads rfl (by omega)) (by simp [Value.oneCell']) (by omega) (by omega) (by first | omega | (simp; omega)) w1.heap.size WWx (belc3.alloc (by omega) _) (Nat.le_refl _) ?_; intro vg4 wg4 owng4 belg4; have zg4 := belg4.size; have dg4 := fun o => belg4.cell (p := ⟨w.heap.size, o, none⟩) lwx))
  go_wp2_with (first | (go_at_call 74; (with_reducible refine (HROW.out _ _ _ _ (owns_reads owng4) (by simp; try omega) (by first | (simp [sv]; done) | (simp [sv, bs]; done)) (by simp; try omega) (by have := HL.out; omega)).mono ?_); rintro e wz ⟨rfl, bz⟩))
  go_ret
  exact ⟨ret_str (by simp), below2 (bwx.trans (belg4.mono (Nat.le_of_lt lwx))) bz⟩
end Go.Proofs.Ytnohkfbapibmdaa
