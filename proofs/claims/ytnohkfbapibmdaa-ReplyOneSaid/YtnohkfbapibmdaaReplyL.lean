/- The lines of replies. -/
import Derived.Test.YtnohkfbapibmdaaReplyR
namespace Go.Proofs.Ytnohkfbapibmdaa
open Go.RowKit
set_option linter.unusedSimpArgs false
set_option linter.unusedVariables false

/-- the lines of a reply -/
def rpLines (r : Rp) : List (List UInt8) := rpText r.code r.en r.n r.till r.ps.length :: r.ps.map peText
set_option maxRecDepth 100000 in
set_option maxHeartbeats 8000000 in
theorem rpLines_any (r : Rp) (w : World) (hg : r.good w) (hl : r.ps.length ≤ 1000) : Calls Try.prog 18 #[.agg #[.int .i64 r.code, .bool r.en.ad.v6, .int .u64 r.en.ad.hi, .int .u64 r.en.ad.lo, .int .i64 r.en.port, .int .i64 r.n, .int .i64 r.till, r.pv]] w (GivesStrs w (rpLines r)) := by
  obtain ⟨code, e, n, till, pv, ps⟩ := r
  obtain ⟨g1, g2, g3, g4, g5, g6⟩ := hg
  simp only at g1 g2 g3 g4 g5 g6 hl ⊢
  obtain ⟨hm, a, c, rfl, h3⟩ := pe_open g5
  have HT := Lib.hid (fun w => rpText_any code e n till a ps.length c g2.1 g3 g4 hm w)
  have HX := Lib.hid (fun (p) (hp : p ∈ ps) w => peText_any p (g6 p hp) w)
  unfold GivesStrs rpLines
  simp only
  generalize rpText code e n till ps.length = tx at *
  clear g1 g2 g3 g4 g5 g6
  have H3 := Lib.hid h3; clear h3
  go_enter Try.func18, Try.ntmps18
  go_wp2_with (go_at_call 15; (with_reducible refine (HT.out _).mono ?_); rintro e w1 ⟨rfl, b1⟩; obtain ⟨c1, f1⟩ := bcell b1; have z1 := b1.size; (try simp at z1); have l1a : w.heap.size < w1.heap.size := (by omega); have n1a := Nat.ne_of_lt l1a; have d1a := fun o => c1 (w.heap.size) o (by first | omega | (simp; done) | (simp; omega)); clear c1 f1)
  go_name_world WWx hWWx
  have hB : BlockIs WWx w1.heap.size [.string (bs tx)] 9 := by subst hWWx; exact BlockIs.new w1 [.string (bs tx)] 9
  have bwx : Below w.heap.size w WWx := by subst hWWx; (repeat (first | with_reducible assumption | with_reducible exact Below.refl _ _ | with_reducible refine Below.setCell ?_ (by first | omega | (simp; done) | (simp; omega)) _ | with_reducible refine Below.alloc ?_ (by first | omega | (simp; done) | (simp; omega)) _ | with_reducible refine Below.drew ?_ | (with_reducible refine Below.trans ?_ (Below.mono (by with_reducible assumption) (by first | omega | (simp; done) | (simp; omega)))) | (refine Below.trans ?_ (Below.mono (by assumption) (by first | omega | (simp; done) | (simp; omega))))))
  have lwx : w.heap.size < w1.heap.size := by omega
  have zwx := hB.lt
  clear hWWx
  have own0 := owns_one hB (Nat.le_refl _)
  go_loopw [12, 3] (fun i v wr => ∃ k : Nat, k ≤ ps.length ∧ i = .int .i64 k ∧ Hid (wr.ownsRow w1.heap.size 9 1 v (k + 1) ((tx :: (ps.take k).map peText).map sv)) ∧ Below w1.heap.size WWx wr) (fun i _ _ => ps.length - (intOf i).toNat)
  case atStart => exact ⟨0, Nat.zero_le _, rfl, own0, Below.refl _ _⟩
  case round =>
    obtain ⟨k, hk, rfl, HO, hb⟩ := hrel
    have zr := hb.size
    have bww := bwx.trans (hb.mono (Nat.le_of_lt lwx))
    by_cases hk2 : k < ps.length
    · obtain ⟨b, o, rfl, hc1, hc2, hc3⟩ := H3.out (by omega)
      obtain ⟨p, hp⟩ : ∃ p, ps[k]? = some p := ⟨_, List.getElem?_eq_getElem hk2⟩
      have hX := fun w => HX.out p (List.mem_of_getElem? hp) w
      obtain ⟨p0, p1, p2, p3, p4, p5, p6, p7, p8, p9⟩ := (hc3 k p hp).below bww hc2
      have hst : ps.take (k + 1) = ps.take k ++ [p] := by rw [List.take_add_one, hp]; rfl
      have hown := HO.out
      have hlen : ((tx :: (ps.take k).map peText).map sv).length = k + 1 := by simp; omega
      have hbi := bww.block
      obtain ⟨tp, htp⟩ : ∃ t, peText p = t := ⟨_, rfl⟩
      rw [htp] at hX
      have HXX := Lib.hid hX; have HST := Lib.hid hst; have HTP := Lib.hid htp
      clear hX hst hc3 hlen hbi htp
      have lr : w.heap.size < wr.heap.size := by omega
      go_wp2_with (first | (go_at_call 32; (with_reducible refine (HXX.out _).mono ?_); rintro e' w2 ⟨rfl, b2⟩; have z2 := b2.size; (try simp at z2); have own2 := owns_below (owns_below hown ((Below.refl _ _).alloc (Nat.le_refl _) _)) b2; have bel2 := Below.trans (Below.alloc hb (by omega) _) (b2.mono (show w1.heap.size ≤ _ from by first | omega | (simp; omega)))) | (at_builtin; refine list_app strRow rfl (.tmp 16) (.tmp 19) rfl w1.heap.size _ _ _ rfl own2 [_] rfl rfl rfl (by omega) (by omega) (by omega) w1.heap.size WWx bel2 (Nat.le_refl _) ?_; intro v3 w3 own3 bel3))
      go_roundw
      case rel =>
        refine ⟨k + 1, by omega, by go_num, ?_, bel3⟩
        unfold Hid
        rw [HST.out]
        simpa [sv, HTP.out] using own3
      case measure => simp [intOf]; omega
    · obtain rfl : k = ps.length := by omega
      have hown := HO.out
      rw [List.take_length] at hown
      go_wp2_with fail
      go_ret
      exact ⟨_, rfl, by simpa using owns_base hown (Nat.le_of_lt lwx), bww⟩
set_option maxRecDepth 100000 in
set_option maxHeartbeats 8000000 in
theorem refRpLines_any (r : Rp) (w : World) (hg : r.good w) (hl : r.ps.length ≤ 1000) : Calls Try.prog 19 #[.agg #[.int .i64 r.code, .bool r.en.ad.v6, .int .u64 r.en.ad.hi, .int .u64 r.en.ad.lo, .int .i64 r.en.port, .int .i64 r.n, .int .i64 r.till, r.pv]] w (GivesStrs w (rpLines r)) := by
  obtain ⟨code, e, n, till, pv, ps⟩ := r
  obtain ⟨g1, g2, g3, g4, g5, g6⟩ := hg
  simp only at g1 g2 g3 g4 g5 g6 hl ⊢
  obtain ⟨hm, a, c, rfl, h3⟩ := pe_open g5
  have HT := Lib.hid (fun w => refRpText_any code e n till a ps.length c g2.1 g3 g4 hm w)
  have HX := Lib.hid (fun (p) (hp : p ∈ ps) w => refPeText_any p (g6 p hp) w)
  unfold GivesStrs rpLines
  simp only
  generalize rpText code e n till ps.length = tx at *
  clear g1 g2 g3 g4 g5 g6
  have H3 := Lib.hid h3; clear h3
  go_enter Try.func19, Try.ntmps19
  go_wp2_with (go_at_call 16; (with_reducible refine (HT.out _).mono ?_); rintro e w1 ⟨rfl, b1⟩; obtain ⟨c1, f1⟩ := bcell b1; have z1 := b1.size; (try simp at z1); have l1a : w.heap.size < w1.heap.size := (by omega); have n1a := Nat.ne_of_lt l1a; have d1a := fun o => c1 (w.heap.size) o (by first | omega | (simp; done) | (simp; omega)); clear c1 f1)
  go_name_world WWx hWWx
  have hB : BlockIs WWx w1.heap.size [.string (bs tx)] 9 := by subst hWWx; exact BlockIs.new w1 [.string (bs tx)] 9
  have hA : RpAt WWx w.heap.size code e n till (.slice a ps.length c) := by subst hWWx; exact RpAt.below (RpAt.below (w := w.alloc (.cells #[.int .i64 code, .bool e.ad.v6, .int .u64 e.ad.hi, .int .u64 e.ad.lo, .int .i64 e.port, .int .i64 n, .int .i64 till, .slice a ps.length c] 30)) (by unfold RpAt; simp [go_sem]) b1 (by simp)) ((Below.refl _ _).alloc (Nat.le_refl _) _) (by omega)
  have bwx : Below w.heap.size w WWx := by subst hWWx; (repeat (first | with_reducible assumption | with_reducible exact Below.refl _ _ | with_reducible refine Below.setCell ?_ (by first | omega | (simp; done) | (simp; omega)) _ | with_reducible refine Below.alloc ?_ (by first | omega | (simp; done) | (simp; omega)) _ | with_reducible refine Below.drew ?_ | (with_reducible refine Below.trans ?_ (Below.mono (by with_reducible assumption) (by first | omega | (simp; done) | (simp; omega)))) | (refine Below.trans ?_ (Below.mono (by assumption) (by first | omega | (simp; done) | (simp; omega))))))
  have lwx : w.heap.size < w1.heap.size := by omega
  have zwx := hB.lt
  clear hWWx
  have own0 := owns_one hB (Nat.le_refl _)
  go_loopw [4, 3] (fun i v wr => ∃ k : Nat, k ≤ ps.length ∧ i = .int .i64 k ∧ Hid (wr.ownsRow w1.heap.size 9 1 v (k + 1) ((tx :: (ps.take k).map peText).map sv)) ∧ Below w1.heap.size WWx wr) (fun i _ _ => ps.length - (intOf i).toNat)
  case atStart => exact ⟨0, Nat.zero_le _, rfl, own0, Below.refl _ _⟩
  case round =>
    obtain ⟨k, hk, rfl, HO, hb⟩ := hrel
    have zr := hb.size
    have bww := bwx.trans (hb.mono (Nat.le_of_lt lwx))
    by_cases hk2 : k < ps.length
    · obtain ⟨b, o, rfl, hc1, hc2, hc3⟩ := H3.out (by omega)
      obtain ⟨p, hp⟩ : ∃ p, ps[k]? = some p := ⟨_, List.getElem?_eq_getElem hk2⟩
      have hX := fun w => HX.out p (List.mem_of_getElem? hp) w
      obtain ⟨p0, p1, p2, p3, p4, p5, p6, p7, p8, p9⟩ := (hc3 k p hp).below bww hc2
      have hst : ps.take (k + 1) = ps.take k ++ [p] := by rw [List.take_add_one, hp]; rfl
      have hown := HO.out
      have hlen : ((tx :: (ps.take k).map peText).map sv).length = k + 1 := by simp; omega
      have hbi := bww.block
      obtain ⟨x0, x1, x2, x3, x4, x5, x6, x7⟩ := RpAt.below hA hb lwx
      obtain ⟨tp, htp⟩ : ∃ t, peText p = t := ⟨_, rfl⟩
      rw [htp] at hX
      have HXX := Lib.hid hX; have HST := Lib.hid hst; have HTP := Lib.hid htp
      clear hX hst hc3 hlen hbi htp
      have lr : w.heap.size < wr.heap.size := by omega
      go_wp2_with (first | (go_at_call 33; (with_reducible refine (HXX.out _).mono ?_); rintro e' w2 ⟨rfl, b2⟩; have z2 := b2.size; (try simp at z2); have own2 := owns_below hown b2; have bel2 := Below.trans hb (b2.mono (show w1.heap.size ≤ _ from by first | omega | (simp; omega)))) | (at_builtin; refine list_app strRow rfl (.tmp 15) (.tmp 22) rfl w1.heap.size _ _ _ rfl own2 [_] rfl rfl rfl (by omega) (by omega) (by omega) w1.heap.size WWx bel2 (Nat.le_refl _) ?_; intro v3 w3 own3 bel3))
      go_roundw
      case rel =>
        refine ⟨k + 1, by omega, by go_num, ?_, bel3⟩
        unfold Hid
        rw [HST.out]
        simpa [sv, HTP.out] using own3
      case measure => simp [intOf]; omega
    · obtain rfl : k = ps.length := by omega
      have hown := HO.out
      rw [List.take_length] at hown
      obtain ⟨x0, x1, x2, x3, x4, x5, x6, x7⟩ := RpAt.below hA hb lwx
      go_wp2_with fail
      go_ret
      exact ⟨_, rfl, by simpa using owns_base hown (Nat.le_of_lt lwx), bww⟩
end Go.Proofs.Ytnohkfbapibmdaa
