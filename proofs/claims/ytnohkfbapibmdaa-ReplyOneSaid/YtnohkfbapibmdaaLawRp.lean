/- The laws of replies. -/
import Derived.Test.YtnohkfbapibmdaaReplyL
namespace Go.Proofs.Ytnohkfbapibmdaa
open Go.RowKit
set_option linter.unusedSimpArgs false
set_option linter.unusedVariables false

theorem Rp.good.below {w w' : World} {r : Rp} (h : r.good w) (hb : Below w.heap.size w w') : r.good w' := ⟨h.1, h.2.1, h.2.2.1, h.2.2.2.1, h.2.2.2.2.1.below hb, h.2.2.2.2.2⟩
theorem a34a : rpText 5 ⟨⟨false, 0, 0⟩, 0⟩ 0 0 0 = [102, 117, 108, 108] := by decide +kernel
theorem a34b : rpText 0 ⟨⟨false, 0, 1⟩, 80⟩ 1 0 0 = [111, 107, 32, 101, 110, 100, 61, 48, 46, 48, 46, 48, 46, 49, 58, 56, 48, 32, 110, 61, 49] := by decide +kernel
theorem i64_0 : i64 0 := ⟨by decide, by decide⟩
theorem i64_1 : i64 1 := ⟨by decide, by decide⟩
theorem c34 : ((0 : Nat) : Int) = 0 := rfl
theorem d34 : ((1 : Nat) : Int) = 1 := rfl
def zeroPe : Pe := ⟨⟨⟨false, 0, 0⟩, 0⟩, false, 0, 0, 0, 0, 0⟩
theorem zEn_fits : En.fits ⟨⟨false, 0, 0⟩, 0⟩ := ⟨⟨by decide, by decide⟩, by decide, by decide⟩
theorem zeroPe_fits : zeroPe.fits := ⟨⟨⟨by decide, by decide⟩, by decide, by decide⟩, by decide, by decide, by decide, by decide, by decide⟩
set_option maxRecDepth 100000 in
set_option maxHeartbeats 8000000 in
theorem awake34_any (w : World) : Calls Try.prog 14 #[] w fun e w' => e = .returned (.bool true) ∧ Below w.heap.size w w' := by
  have h1 := fun w => rpText_any 5 ⟨⟨false, 0, 0⟩, 0⟩ 0 0 none 0 0 ⟨by decide, by decide⟩ i64_0 i64_0 (by omega) w
  have h2 := fun w => rpText_any 0 ⟨⟨false, 0, 1⟩, 80⟩ 1 0 none 0 0 ⟨by decide, by decide⟩ i64_1 i64_0 (by omega) w
  have h3 := fun (W : World) => rpLines_any ⟨0, ⟨⟨false, 0, 0⟩, 0⟩, 0, 0, .slice (some ⟨W.heap.size, 0, none⟩) 1 1, [zeroPe]⟩ (W.alloc (.cells (peV zeroPe).toArray 41)) ⟨i64_0, zEn_fits, i64_0, i64_0, by simpa using ReadsL.new (w := W) 41 [zeroPe] peV_len (by omega) (by simp) 1 rfl, fun x hx => by rw [List.mem_singleton] at hx; rw [hx]; exact zeroPe_fits⟩ (by simp)
  rw [a34a] at h1
  rw [a34b] at h2
  unfold zeroPe peV at h3
  simp only [c34, d34] at h1 h2 h3
  have H1 := Lib.hid h1; have H2 := Lib.hid h2; have H3 := Lib.hid h3
  clear h1 h2 h3
  have e1 : ((bs [102, 117, 108, 108]).toList == [102, 117, 108, 108]) = true := by decide +kernel
  have e2 : ((bs [111, 107, 32, 101, 110, 100, 61, 48, 46, 48, 46, 48, 46, 49, 58, 56, 48, 32, 110, 61, 49]).toList == [111, 107, 32, 101, 110, 100, 61, 48, 46, 48, 46, 48, 46, 49, 58, 56, 48, 32, 110, 61, 49]) = true := by decide +kernel
  go_enter Try.func14, Try.ntmps14
  go_wp2_with (first | (go_at_call 15; (with_reducible refine (H1.out _).mono ?_); rintro e w1 ⟨rfl, b1⟩) | (go_at_call 15; (with_reducible refine (H2.out _).mono ?_); rintro e w2 ⟨rfl, b2⟩) | (go_at_call 18; refine (H3.out _).mono ?_; rintro e w3 ⟨v3, rfl, o3, b3⟩; obtain ⟨a3, c3, rfl⟩ := owns_slice o3))
  go_ret
  exact ⟨rfl, below2 b1 (below2 b2 ((Below.refl _ _).alloc (Nat.le_refl _) _ |>.trans (b3.mono (by simp))))⟩
set_option maxRecDepth 100000 in
set_option maxHeartbeats 8000000 in
theorem replyTells_any (r : Rp) (w : World) (hg : r.good w) : Calls Try.prog 3 #[.agg #[.int .i64 r.code, .bool r.en.ad.v6, .int .u64 r.en.ad.hi, .int .u64 r.en.ad.lo, .int .i64 r.en.port, .int .i64 r.n, .int .i64 r.till, r.pv]] w fun e w' => e = .returned (.bool true) ∧ Below w.heap.size w w' := by
  have HA := Lib.hid (fun w => awake34_any w)
  obtain ⟨hm, a, c, hpv, _⟩ := pe_open hg.2.2.2.2.1
  by_cases hl : 60 < r.ps.length
  · rw [hpv]
    clear hpv hg
    go_enter Try.func3, Try.ntmps3
    go_wp2_with (go_at_call 14; (with_reducible refine (HA.out _).mono ?_); rintro e w1 ⟨rfl, b1⟩; obtain ⟨c1, f1⟩ := bcell b1; have z1 := b1.size; (try simp at z1); clear c1 f1)
    go_ret
    refine ⟨rfl, ?_⟩
    (repeat (first | with_reducible assumption | with_reducible exact Below.refl _ _ | with_reducible refine Below.setCell ?_ (by first | omega | (simp; done) | (simp; omega)) _ | with_reducible refine Below.alloc ?_ (by first | omega | (simp; done) | (simp; omega)) _ | with_reducible refine Below.drew ?_ | (with_reducible refine Below.trans ?_ (Below.mono (by with_reducible assumption) (by first | omega | (simp; done) | (simp; omega)))) | (refine Below.trans ?_ (Below.mono (by assumption) (by first | omega | (simp; done) | (simp; omega))))))
  have hl2 : r.ps.length ≤ 60 := by omega
  have hT := fun w => rpText_any r.code r.en r.n r.till a r.ps.length c hg.2.1.1 hg.2.2.1 hg.2.2.2.1 hm w
  have hT2 := fun w => refRpText_any r.code r.en r.n r.till a r.ps.length c hg.2.1.1 hg.2.2.1 hg.2.2.2.1 hm w
  have hL := fun w' (b : Below w.heap.size w w') => rpLines_any r w' (hg.below b) (by omega)
  have hL2 := fun w' (b : Below w.heap.size w w') => refRpLines_any r w' (hg.below b) (by omega)
  rw [hpv] at hL hL2 ⊢
  generalize rpText r.code r.en r.n r.till r.ps.length = tx at *
  generalize rpLines r = L at *
  have e1 : ((bs tx).toList == (bs tx).toList) = true := by simp
  have HT := Lib.hid hT; have HT2 := Lib.hid hT2; have HL := Lib.hid hL; have HL2 := Lib.hid hL2
  clear hT hT2 hL hL2 hpv hg hl hm
  obtain ⟨code, en, n, till, pv, ps⟩ := r
  simp only at *
  clear pv
  generalize ps.length = k at *
  go_enter Try.func3, Try.ntmps3
  go_wp2_with fail
  go_region_held3 (fun w' => w'.cell? ⟨w.heap.size, 0, none⟩ = some (.int .i64 code) ∧ w'.cell? ⟨w.heap.size, 1, none⟩ = some (.bool en.ad.v6) ∧ w'.cell? ⟨w.heap.size, 2, none⟩ = some (.int .u64 en.ad.hi) ∧ w'.cell? ⟨w.heap.size, 3, none⟩ = some (.int .u64 en.ad.lo) ∧ w'.cell? ⟨w.heap.size, 4, none⟩ = some (.int .i64 en.port) ∧ w'.cell? ⟨w.heap.size, 5, none⟩ = some (.int .i64 n) ∧ w'.cell? ⟨w.heap.size, 6, none⟩ = some (.int .i64 till) ∧ w'.cell? ⟨w.heap.size, 7, none⟩ = some (.slice a k c)) (first | go_keep | (simp (disch := omega) [*])) (first
    | (go_at_call 15; (with_reducible refine (HT.out _).mono ?_); rintro e w1 ⟨rfl, b1⟩; have z1 := b1.size; (try simp at z1); have d1 := fun o => (bcell b1).1 w.heap.size o (by first | omega | (simp; done) | (simp; omega)))
    | (go_at_call 16; (with_reducible refine (HT2.out _).mono ?_); rintro e w2 ⟨rfl, b2⟩; have z2 := b2.size; (try simp at z2); have d2 := fun o => (bcell b2).1 w.heap.size o (by first | omega | (simp; done) | (simp; omega)))
    | (go_at_call 18; (with_reducible refine (HL.out _ (by (repeat (first | with_reducible assumption | with_reducible exact Below.refl _ _ | with_reducible refine Below.setCell ?_ (by first | omega | (simp; done) | (simp; omega)) _ | with_reducible refine Below.alloc ?_ (by first | omega | (simp; done) | (simp; omega)) _ | with_reducible refine Below.drew ?_ | (with_reducible refine Below.trans ?_ (Below.mono (by with_reducible assumption) (by first | omega | (simp; done) | (simp; omega)))) | (refine Below.trans ?_ (Below.mono (by assumption) (by first | omega | (simp; done) | (simp; omega)))))))).mono ?_); rintro e w3 ⟨v3, rfl, o3, b3⟩; have z3 := b3.size; (try simp at z3); have d3 := fun o => (bcell b3).1 w.heap.size o (by first | omega | (simp; done) | (simp; omega)))
    | (go_at_call 19; (with_reducible refine (HL2.out _ (by (repeat (first | with_reducible assumption | with_reducible exact Below.refl _ _ | with_reducible refine Below.setCell ?_ (by first | omega | (simp; done) | (simp; omega)) _ | with_reducible refine Below.alloc ?_ (by first | omega | (simp; done) | (simp; omega)) _ | with_reducible refine Below.drew ?_ | (with_reducible refine Below.trans ?_ (Below.mono (by with_reducible assumption) (by first | omega | (simp; done) | (simp; omega)))) | (refine Below.trans ?_ (Below.mono (by assumption) (by first | omega | (simp; done) | (simp; omega)))))))).mono ?_); rintro e w4 ⟨v4, rfl, o4, b4⟩; have z4 := b4.size; (try simp at z4); have d4 := fun o => (bcell b4).1 w.heap.size o (by first | omega | (simp; done) | (simp; omega)))
    | (go_at_call 17; refine (texts_same v3 v4 L _ ((owns_reads o3).below b4) (owns_reads o4)).mono ?_; rintro e w5 ⟨rfl, b5⟩; have z5 := b5.size; (try simp at z5); have d5 := fun o => (bcell b5).1 w.heap.size o (by first | omega | (simp; done) | (simp; omega)))
    | (go_at_call 14; (with_reducible refine (HA.out _).mono ?_); rintro e w6 ⟨rfl, b6⟩; have z6 := b6.size; (try simp at z6); have d6 := fun o => (bcell b6).1 w.heap.size o (by first | omega | (simp; done) | (simp; omega))))
  all_goals
    go_wp2_with fail
    go_ret
    refine ⟨rfl, ?_⟩
    (repeat (first | with_reducible assumption | with_reducible exact Below.refl _ _ | with_reducible refine Below.setCell ?_ (by first | omega | (simp; done) | (simp; omega)) _ | with_reducible refine Below.alloc ?_ (by first | omega | (simp; done) | (simp; omega)) _ | with_reducible refine Below.drew ?_ | (with_reducible refine Below.trans ?_ (Below.mono (by with_reducible assumption) (by first | omega | (simp; done) | (simp; omega)))) | (refine Below.trans ?_ (Below.mono (by assumption) (by first | omega | (simp; done) | (simp; omega))))))
end Go.Proofs.Ytnohkfbapibmdaa
