/- Texts put together: TabI. No condition. -/
import Derived.Test.YtppmjbnhghaffaaRqjjxvzgggn
import Derived.Test.YtppmjbnhghaffaaRumcghwkiba
namespace Go.Proofs.Ytppmjbnhghaffaa
open Go.RowKit Go.Lib

/-- a table with a peer more, and the code -/
def addT (l : List Pe) (p : Pe) : List Pe × Int := if peRight p = false then ([], 1) else if 0 ≤ fdI l p.en then ([], 7) else (putT l p, 0)
set_option maxRecDepth 100000 in
set_option maxHeartbeats 4000000 in
theorem refTadd_any (v : Value) (l : List Pe) (p : Pe) (hf : p.en.ad.fits) (w : World) (h : ReadsL peV 10 w v l) (hl : l.length ≤ 1000000) :
    Calls Try.prog 66 #[v, .agg #[.bool p.en.ad.v6, .int .u64 p.en.ad.hi, .int .u64 p.en.ad.lo, .int .i64 p.en.port, .bool p.came, .int .i64 p.since, .int .i64 p.pts, .int .i64 p.at_, .int .i64 p.ping, .int .i64 p.work]] w fun e w' => ∃ r, e = .returned (.tuple #[r, .int .i64 (addT l p).2]) ∧ ReadsL peV 10 w' r (addT l p).1 ∧ Below w.heap.size w w' := by
  have HRt := Lib.hid (fun W => refPeRight_any p hf W)
  have HFd := Lib.hid (fun (W : World) (hb : Below w.heap.size w W) => refIndex_any v l p.en W (ReadsL.below h hb))
  have HPt := Lib.hid (fun (W : World) (hb : Below w.heap.size w W) => refPutT_any v l p W (ReadsL.below h hb) hl)
  have B0 : Below w.heap.size w (w.alloc (.cells #[.bool p.en.ad.v6, .int .u64 p.en.ad.hi, .int .u64 p.en.ad.lo, .int .i64 p.en.port, .bool p.came, .int .i64 p.since, .int .i64 p.pts, .int .i64 p.at_, .int .i64 p.ping, .int .i64 p.work] 66)) := by (repeat (first | with_reducible assumption | with_reducible exact Below.refl _ _ | with_reducible refine Below.setCell ?_ (by first | omega | (simp; done) | (simp; omega)) _ | with_reducible refine Below.alloc ?_ (by first | omega | (simp; done) | (simp; omega)) _ | with_reducible refine Below.drew ?_ | (with_reducible refine Below.trans ?_ (Below.mono (by with_reducible assumption) (by first | omega | (simp; done) | (simp; omega)))) | (refine Below.trans ?_ (Below.mono (by assumption) (by first | omega | (simp; done) | (simp; omega))))))
  have hBk : BlockIs (w.alloc (.cells #[.bool p.en.ad.v6, .int .u64 p.en.ad.hi, .int .u64 p.en.ad.lo, .int .i64 p.en.port, .bool p.came, .int .i64 p.since, .int .i64 p.pts, .int .i64 p.at_, .int .i64 p.ping, .int .i64 p.work] 66)) w.heap.size (peV p) 66 := BlockIs.new w (peV p) _
  have HB0 := Lib.hid B0; have HBk := Lib.hid hBk
  clear B0 h hBk
  obtain ⟨rt, hrt⟩ : ∃ rt, rt = peRight p := ⟨_, rfl⟩
  rw [← hrt] at HRt
  obtain ⟨z, hz⟩ : ∃ z, z = fdI l p.en := ⟨_, rfl⟩
  rw [← hz] at HFd
  cases rt with
  | false =>
    have hd : addT l p = ([], 1) := by unfold addT; rw [if_pos hrt.symm]
    rw [hd]
    clear hd hrt hz
    go_enter Try.func66, Try.ntmps66
    go_wp2_with (go_at_call 59; (with_reducible refine (HRt.out _).mono ?_); rintro e w1 ⟨rfl, b1⟩)
    go_ret2
    exact ⟨_, rfl, owns_readsL (l := []) (World.ownsRow_nil w1 w.heap.size 66 10), below2 HB0.out b1⟩
  | true =>
    by_cases hz0 : 0 ≤ z
    · have hd : addT l p = ([], 7) := by unfold addT; rw [← hrt, ← hz, if_neg (by simp), if_pos hz0]
      rw [hd]
      have hzd : decide (0 ≤ z) = true := decide_eq_true hz0
      clear hd hrt hz
      go_enter Try.func66, Try.ntmps66
      go_wp2_with (first
        | (go_at_call 59; (with_reducible refine (HRt.out _).mono ?_); rintro e w1 ⟨rfl, b1⟩; have k := peIn_box (HBk.out.below b1); obtain ⟨x0, x1, x2, x3, x4, x5, x6, x7, x8, x9⟩ := k; simp only [Nat.zero_add] at x0 x1 x2 x3 x4 x5 x6 x7 x8 x9; have b2 := below2 HB0.out b1)
        | (go_at_call 60; (with_reducible refine (HFd.out _ b2).mono ?_); rintro e w3 ⟨rfl, b3⟩; have b4 := below2 b2 b3))
      go_ret2
      exact ⟨_, rfl, owns_readsL (l := []) (World.ownsRow_nil w3 w.heap.size 66 10), b4⟩
    · have hd : addT l p = (putT l p, 0) := by unfold addT; rw [← hrt, ← hz, if_neg (by simp), if_neg hz0]
      rw [hd]
      have hzd : decide (0 ≤ z) = false := decide_eq_false hz0
      clear hd hrt hz
      go_enter Try.func66, Try.ntmps66
      go_wp2_with (first
        | (go_at_call 59; (with_reducible refine (HRt.out _).mono ?_); rintro e w1 ⟨rfl, b1⟩; have k := peIn_box (HBk.out.below b1); obtain ⟨x0, x1, x2, x3, x4, x5, x6, x7, x8, x9⟩ := k; simp only [Nat.zero_add] at x0 x1 x2 x3 x4 x5 x6 x7 x8 x9; have b2 := below2 HB0.out b1; have hBk1 := HBk.out.below b1)
        | (go_at_call 60; (with_reducible refine (HFd.out _ b2).mono ?_); rintro e w3 ⟨rfl, b3⟩; have b4 := below2 b2 b3; have k := peIn_box (hBk1.below b3); obtain ⟨y0, y1, y2, y3, y4, y5, y6, y7, y8, y9⟩ := k; simp only [Nat.zero_add] at y0 y1 y2 y3 y4 y5 y6 y7 y8 y9)
        | (go_at_call 112; (with_reducible refine (HPt.out _ b4).mono ?_); rintro e w5 ⟨r5, rfl, h5, b5⟩))
      go_ret2
      exact ⟨_, rfl, h5, below2 b4 b5⟩
end Go.Proofs.Ytppmjbnhghaffaa
