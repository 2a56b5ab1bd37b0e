/- The laws of operations. -/
import Derived.Test.YtnohkfbapibmdaaOpW
namespace Go.Proofs.Ytnohkfbapibmdaa
open Go.RowKit

set_option maxHeartbeats 4000000 in
theorem light36_any (n : Int) (p : Pe) (ba ya : Option Addr) (bn bc yn yc : Nat) (w : World) : Calls Try.prog 35 #[.agg #[.int .i64 n, .bool p.en.ad.v6, .int .u64 p.en.ad.hi, .int .u64 p.en.ad.lo, .int .i64 p.en.port, .bool p.came, .int .i64 p.since, .int .i64 p.pts, .int .i64 p.at_, .int .i64 p.ping, .int .i64 p.work, .slice ba bn bc, .slice ya yn yc]] w fun r w' => r = .returned (.bool (decide (bn ≤ 30 ∧ yn ≤ 30))) ∧ Below w.heap.size w w' := by
  rcases Int.lt_or_le 30 (bn : Int) with h | h
  · have d1 : decide ((bn : Int) ≤ 30) = false := decide_eq_false (by omega)
    rw [show decide (bn ≤ 30 ∧ yn ≤ 30) = false from decide_eq_false (by omega)]
    go_enter Try.func35, Try.ntmps35
    go_wp2_with fail
    go_ret
    exact ⟨rfl, by (repeat (first | with_reducible assumption | with_reducible exact Below.refl _ _ | with_reducible refine Below.setCell ?_ (by first | omega | (simp; done) | (simp; omega)) _ | with_reducible refine Below.alloc ?_ (by first | omega | (simp; done) | (simp; omega)) _ | with_reducible refine Below.drew ?_ | (with_reducible refine Below.trans ?_ (Below.mono (by with_reducible assumption) (by first | omega | (simp; done) | (simp; omega)))) | (refine Below.trans ?_ (Below.mono (by assumption) (by first | omega | (simp; done) | (simp; omega))))))⟩
  · have d1 : decide ((bn : Int) ≤ 30) = true := decide_eq_true h
    rcases Int.lt_or_le 30 (yn : Int) with h2 | h2
    · have d2 : decide ((yn : Int) ≤ 30) = false := decide_eq_false (by omega)
      rw [show decide (bn ≤ 30 ∧ yn ≤ 30) = false from decide_eq_false (by omega)]
      go_enter Try.func35, Try.ntmps35
      go_wp2_with fail
      go_ret
      exact ⟨rfl, by (repeat (first | with_reducible assumption | with_reducible exact Below.refl _ _ | with_reducible refine Below.setCell ?_ (by first | omega | (simp; done) | (simp; omega)) _ | with_reducible refine Below.alloc ?_ (by first | omega | (simp; done) | (simp; omega)) _ | with_reducible refine Below.drew ?_ | (with_reducible refine Below.trans ?_ (Below.mono (by with_reducible assumption) (by first | omega | (simp; done) | (simp; omega)))) | (refine Below.trans ?_ (Below.mono (by assumption) (by first | omega | (simp; done) | (simp; omega))))))⟩
    · have d2 : decide ((yn : Int) ≤ 30) = true := decide_eq_true h2
      rw [show decide (bn ≤ 30 ∧ yn ≤ 30) = true from decide_eq_true (by omega)]
      go_enter Try.func35, Try.ntmps35
      go_wp2_with fail
      go_ret
      exact ⟨rfl, by (repeat (first | with_reducible assumption | with_reducible exact Below.refl _ _ | with_reducible refine Below.setCell ?_ (by first | omega | (simp; done) | (simp; omega)) _ | with_reducible refine Below.alloc ?_ (by first | omega | (simp; done) | (simp; omega)) _ | with_reducible refine Below.drew ?_ | (with_reducible refine Below.trans ?_ (Below.mono (by with_reducible assumption) (by first | omega | (simp; done) | (simp; omega)))) | (refine Below.trans ?_ (Below.mono (by assumption) (by first | omega | (simp; done) | (simp; omega))))))⟩
def aw36 : Oq := ⟨7, 5, 1, 0, 9, 3, 4, 0, zeroPe, noBans, noBook, true⟩
theorem aw36_shaped : aw36.shaped := ⟨⟨none, 0, rfl⟩, ⟨none, 0, rfl⟩⟩
theorem aw36_text : opText aw36 = [115, 119, 97, 112, 32, 105, 110, 32, 51, 32, 52, 32, 42] := by decide +kernel
theorem aw36_clean : opClean aw36 = ⟨7, 0, 1, 0, 0, 3, 4, 0, zeroPe, noBans, noBook, true⟩ := by rfl
theorem aw36_right : opRight aw36 1 = true := by decide +kernel
theorem aw36_place : plOk 5 2 0 2 = false := by decide +kernel
theorem i64_s (n : Int) (h : -1000 ≤ n ∧ n ≤ 1000) : i64 n := ⟨by omega, by omega⟩
theorem c36 : ((0 : Nat) : Int) = 0 := rfl
theorem fld1 (W : World) : (Instr.field 60 (.agg #[.int .i64 7, .int .i64 0, .int .i64 1, .int .i64 0, .int .i64 0, .int .i64 3, .int .i64 4, .int .i64 0, .bool false, .int .u64 0, .int .u64 0, .int .i64 0, .bool false, .int .i64 0, .int .i64 0, .int .i64 0, .int .i64 0, .int .i64 0, .slice none 0 0, .slice none 0 0, .bool true]) 1).run Try.prog W = .ok (.int .i64 0) W := by kernel_rfl
theorem fld2 (W : World) : (Instr.field 60 (.agg #[.int .i64 7, .int .i64 0, .int .i64 1, .int .i64 0, .int .i64 0, .int .i64 3, .int .i64 4, .int .i64 0, .bool false, .int .u64 0, .int .u64 0, .int .i64 0, .bool false, .int .i64 0, .int .i64 0, .int .i64 0, .int .i64 0, .int .i64 0, .slice none 0 0, .slice none 0 0, .bool true]) 2).run Try.prog W = .ok (.agg #[.int .i64 1, .int .i64 0, .int .i64 0]) W := by kernel_rfl
theorem fld3 (W : World) : (Instr.field 54 (.agg #[.int .i64 1, .int .i64 0, .int .i64 0]) 2).run Try.prog W = .ok (.int .i64 0) W := by kernel_rfl
set_option maxRecDepth 100000 in
set_option maxHeartbeats 8000000 in
theorem awake36_any (w : World) : Calls Try.prog 36 #[] w fun e w' => e = .returned (.bool true) ∧ Below w.heap.size w w' := by
  have h1 := fun w => opText_all aw36 aw36_shaped (i64_s _ (by decide)) (i64_s _ (by decide)) (i64_s _ (by decide)) (i64_s _ (by decide)) (i64_s _ (by decide)) (i64_s _ (by decide)) ⟨by decide, by decide⟩ (by decide) (by decide) w
  have h2 := fun w => opRight_any aw36 1 w
  have h3 := fun w => opClean_all aw36 aw36_shaped w
  have h4 := fun w => opPlace_any 5 2 0 2 w
  rw [aw36_text] at h1
  rw [aw36_right] at h2
  rw [aw36_clean] at h3
  rw [aw36_place] at h4
  unfold aw36 zeroPe zeroEn noBans noBook at h1 h2 h3
  simp only [c36] at h1 h2 h3
  have H1 := Lib.hid h1; have H2 := Lib.hid h2; have H3 := Lib.hid h3; have H4 := Lib.hid h4
  clear h1 h2 h3 h4
  have e1 : ((bs [115, 119, 97, 112, 32, 105, 110, 32, 51, 32, 52, 32, 42]).toList == [115, 119, 97, 112, 32, 105, 110, 32, 51, 32, 52, 32, 42]) = true := by decide +kernel
  go_enter Try.func36, Try.ntmps36
  go_upto_region 2 with (refine list_store_blk rfl 60 _ _ rfl (w.heap.size) _ _ 60 (BlockIs.newAt' _ _ _ (by simp)) rfl rfl (by kernel_rfl) rfl (by simp [Value.oneCell']) w.heap.size w (by (repeat (first | with_reducible assumption | with_reducible exact Below.refl _ _ | with_reducible refine Below.setCell ?_ (by first | omega | (simp; done) | (simp; omega)) _ | with_reducible refine Below.alloc ?_ (by first | omega | (simp; done) | (simp; omega)) _ | with_reducible refine Below.drew ?_ | (with_reducible refine Below.trans ?_ (Below.mono (by with_reducible assumption) (by first | omega | (simp; done) | (simp; omega)))) | (refine Below.trans ?_ (Below.mono (by assumption) (by first | omega | (simp; done) | (simp; omega))))))) (by omega) ?_; intro w1 hO hoth hsz bw1)
  clear hoth hsz
  have g1 := fld1; have g2 := fld2; have g3 := fld3
  go_wp2_with (first | (refine list_load_blk_w (by rfl) _ _ rfl _ _ _ (by first | exact hO | exact hO1 | exact hO2 | exact hO3) rfl Try.underlying60 (by kernel_rfl) ?_) | (go_at_call 44; (with_reducible refine (H1.out _).mono ?_); rintro e wc1 ⟨rfl, bc1⟩; have hO1 := hO.below bc1) | (go_at_call 39; (with_reducible refine (H2.out _).mono ?_); rintro e wc2 ⟨rfl, bc2⟩; have hO2 := hO1.below bc2) | (go_at_call 42; (with_reducible refine (H3.out wc2).mono ?_); rintro e wc3 ⟨rfl, bc3⟩; have hO3 := hO2.below bc3) | (go_at_call 42; (with_reducible refine (H3.out wc3).mono ?_); rintro e wc4 ⟨rfl, bc4⟩) | (go_at_call 37; (with_reducible refine (H4.out _).mono ?_); rintro e wc5 ⟨rfl, bc5⟩))
  go_ret
  refine ⟨rfl, bw1.trans ?_⟩
  have b12 := below2 (below2 (below2 (below2 bc1 bc2) bc3) bc4) bc5
  exact b12.mono bw1.size
/-- the slices of what is cleaned -/
theorem clean_slices (o : Oq) : ((opClean o).bans = noBans ∨ (opClean o).bans = o.bans) ∧ ((opClean o).book = noBook ∨ (opClean o).book = o.book) := by
  unfold opClean
  split
  · exact ⟨Or.inl rfl, Or.inl rfl⟩
  · split
    · exact ⟨Or.inl rfl, Or.inl rfl⟩
    · split
      · exact ⟨Or.inl rfl, Or.inl rfl⟩
      · split
        · unfold cB cY
          refine ⟨?_, ?_⟩
          · simp only; split
            · exact Or.inr rfl
            · exact Or.inl rfl
          · simp only; split
            · exact Or.inr rfl
            · exact Or.inl rfl
        · split <;> exact ⟨Or.inl rfl, Or.inl rfl⟩
theorem clean_reads {w : World} {o : Oq} (hb : ReadsL baV 5 w o.bans.1 o.bans.2) (hy : ReadsL eyV 7 w o.book.1 o.book.2) : ReadsL baV 5 w (opClean o).bans.1 (opClean o).bans.2 ∧ ReadsL eyV 7 w (opClean o).book.1 (opClean o).book.2 := by
  obtain ⟨h1, h2⟩ := clean_slices o
  constructor
  · rcases h1 with h | h
    · rw [h]; exact ReadsL.nil baV 5 w none 0
    · rw [h]; exact hb
  · rcases h2 with h | h
    · rw [h]; exact ReadsL.nil eyV 7 w none 0
    · rw [h]; exact hy
theorem shaped_of {w : World} {o : Oq} (hb : ReadsL baV 5 w o.bans.1 o.bans.2) (hy : ReadsL eyV 7 w o.book.1 o.book.2) : o.shaped := by
  obtain ⟨_, a, c, h1, _⟩ := ba_open hb
  obtain ⟨_, a2, c2, h2, _⟩ := ey_open hy
  exact ⟨⟨a, c, h1⟩, ⟨a2, c2, h2⟩⟩
theorem clean_i64 {o : Oq} (h : i64 o.kind ∧ i64 o.lock ∧ i64 o.lk ∧ i64 o.ls ∧ i64 o.lt ∧ i64 o.old ∧ i64 o.new ∧ i64 o.vn) (hp : o.pe.en.ad.fits) :
    (i64 (opClean o).lock ∧ i64 (opClean o).lk ∧ i64 (opClean o).ls ∧ i64 (opClean o).lt ∧ i64 (opClean o).old ∧ i64 (opClean o).new ∧ i64 (opClean o).vn) ∧ (opClean o).pe.en.ad.fits := by
  obtain ⟨h1, h2, h3, h4, h5, h6, h7, h8⟩ := h
  have z : i64 0 := ⟨by omega, by omega⟩
  have zf : zeroPe.en.ad.fits := ⟨by decide, by decide⟩
  unfold opClean
  split
  · exact ⟨⟨z, z, z, z, z, z, z⟩, zf⟩
  · split
    · exact ⟨⟨h2, z, z, z, z, z, z⟩, zf⟩
    · have k1 : i64 (cK o.lk) := by unfold cK; split <;> assumption
      have k2 : i64 (cS o.lk o.ls) := by unfold cS; split <;> assumption
      have k3 : i64 (cT o.lk o.lt) := by unfold cT; split <;> assumption
      split
      · exact ⟨⟨z, k1, k2, k3, z, z, z⟩, zf⟩
      · split
        · refine ⟨⟨z, k1, k2, k3, z, z, ?_⟩, ?_⟩
          · unfold cN; simp only; split <;> assumption
          · unfold cP; simp only; split <;> assumption
        · split
          · exact ⟨⟨z, k1, k2, k3, h6, h7, z⟩, zf⟩
          · exact ⟨⟨z, z, z, z, z, z, z⟩, zf⟩
end Go.Proofs.Ytnohkfbapibmdaa
