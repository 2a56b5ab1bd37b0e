/- Texts put together: TabR. No condition. -/
import Derived.Test.YtppmjbnhghaffaaRsissqcrhpy
import Derived.Test.YtppmjbnhghaffaaRhotjtwabcv
import Derived.Test.YtppmjbnhghaffaaRjfuuvpwwvz
namespace Go.Proofs.Ytppmjbnhghaffaa
open Go.RowKit Go.Lib

def p30 : Pe := ⟨⟨⟨false, 0, 1⟩, 80⟩, true, 0, 0, 0, 0, 0⟩
theorem p30_fits : p30.en.ad.fits := ⟨by decide, by decide⟩
theorem a30_1 : addT [] p30 = ([p30], 0) := by decide +kernel
theorem a30_2 : addT [p30] p30 = ([], 7) := by decide +kernel
theorem a30_3 : dropT [p30] p30.en = ([], 0) := by decide +kernel
theorem a30_4 : fdI [p30] p30.en = 0 := by decide +kernel
theorem a30_5 : cntL true [p30] = 1 := by decide +kernel
set_option maxRecDepth 100000 in
set_option maxHeartbeats 16000000 in
theorem awake30_any (w : World) : Calls Try.prog 58 #[] w fun e w' => e = .returned (.bool true) ∧ Below w.heap.size w w' := by
  have hz : ∀ W : World, ReadsL peV 10 W (.slice none 0 0) [] := fun W => ⟨rfl, by simp, Or.inl ⟨rfl, none, 0, rfl⟩⟩
  have H1 : Hid (∀ W, Calls Try.prog 63 #[.slice none 0 0, .agg #[.bool false, .int .u64 0, .int .u64 1, .int .i64 80, .bool true, .int .i64 0, .int .i64 0, .int .i64 0, .int .i64 0, .int .i64 0]] W fun e w' => ∃ r, e = .returned (.tuple #[r, .int .i64 0]) ∧ ReadsL peV 10 w' r [p30] ∧ Below W.heap.size W w') := fun W => by
    have := tadd_any (.slice none 0 0) [] p30 p30_fits W (hz W) (by simp)
    rw [a30_1] at this; exact this
  have H2 : Hid (∀ (W : World) (r : Value), ReadsL peV 10 W r [p30] → Calls Try.prog 63 #[r, .agg #[.bool false, .int .u64 0, .int .u64 1, .int .i64 80, .bool true, .int .i64 0, .int .i64 0, .int .i64 0, .int .i64 0, .int .i64 0]] W fun e w' => ∃ r, e = .returned (.tuple #[r, .int .i64 7]) ∧ Below W.heap.size W w') := fun W r hr => by
    have := tadd_any r [p30] p30 p30_fits W hr (by simp)
    rw [a30_2] at this; exact this.mono fun e w' ⟨q, he, _, hb⟩ => ⟨q, he, hb⟩
  have H3 : Hid (∀ (W : World) (r : Value), ReadsL peV 10 W r [p30] → Calls Try.prog 67 #[r, .agg #[.bool false, .int .u64 0, .int .u64 1, .int .i64 80]] W fun e w' => ∃ r, e = .returned (.tuple #[r, .int .i64 0]) ∧ ReadsL peV 10 w' r [] ∧ Below W.heap.size W w') := fun W r hr => by
    have := tdrop_any r [p30] p30.en W hr (by simp)
    rw [a30_3] at this; exact this.mono fun e w' ⟨q, he, ho, hb⟩ => ⟨q, he, owns_readsL (l := []) ho, hb⟩
  have H4 : Hid (∀ (W : World) (r : Value), ReadsL peV 10 W r [p30] → Calls Try.prog 71 #[r, .agg #[.bool false, .int .u64 0, .int .u64 1, .int .i64 80]] W fun e w' => e = .returned (.int .i64 0) ∧ Below W.heap.size W w') := fun W r hr => by
    have := tfind_any r [p30] p30.en W hr
    rw [a30_4] at this; exact this
  have H5 : Hid (∀ (W : World) (r : Value), ReadsL peV 10 W r [p30] → Calls Try.prog 65 #[r, .bool true] W fun e w' => e = .returned (.int .i64 1) ∧ Below W.heap.size W w') := fun W r hr => by
    have := tcount_any r [p30] true W hr
    rw [a30_5] at this; exact this
  clear hz
  go_enter Try.func58, Try.ntmps58
  go_upto_region 2 with fail
  go_name_world W0 hW0
  obtain ⟨B, hB⟩ : ∃ B, B = w.heap.size := ⟨_, rfl⟩
  have hS0 : BlockIs W0 B [.bool false, .int .u64 0, .int .u64 1, .int .i64 80, .bool true, .int .i64 0, .int .i64 0, .int .i64 0, .int .i64 0, .int .i64 0] 66 := by subst hW0 hB; exact BlockIs.newAt' _ _ _ (by simp)
  have b0 : Below w.heap.size w W0 := by subst hW0; (repeat (first | with_reducible assumption | with_reducible exact Below.refl _ _ | with_reducible refine Below.setCell ?_ (by first | omega | (simp; done) | (simp; omega)) _ | with_reducible refine Below.alloc ?_ (by first | omega | (simp; done) | (simp; omega)) _ | with_reducible refine Below.drew ?_ | (with_reducible refine Below.trans ?_ (Below.mono (by with_reducible assumption) (by first | omega | (simp; done) | (simp; omega)))) | (refine Below.trans ?_ (Below.mono (by assumption) (by first | omega | (simp; done) | (simp; omega))))))
  rw [← hB]
  have HS0 := Lib.hid hS0; have HB0 := Lib.hid b0
  have s0 := hS0.cell (i := 0) rfl; have s1 := hS0.cell (i := 1) rfl; have s2 := hS0.cell (i := 2) rfl; have s3 := hS0.cell (i := 3) rfl; have s4 := hS0.cell (i := 4) rfl; have s5 := hS0.cell (i := 5) rfl; have s6 := hS0.cell (i := 6) rfl; have s7 := hS0.cell (i := 7) rfl; have s8 := hS0.cell (i := 8) rfl; have s9 := hS0.cell (i := 9) rfl
  clear hW0 hB hS0 b0
  go_upto_region 3 with (go_at_call 63; (with_reducible refine (H1.out _).mono ?_); rintro e w1 ⟨r1, rfl, rd1, b1⟩; obtain ⟨hm1, p1, c1, rfl, -⟩ := pes_open rd1)
  have hS1 := HS0.out.below b1
  have HS1 := Lib.hid hS1; have HB1 := Lib.hid (below2 HB0.out b1); have HR1 : Hid (ReadsL peV 10 w1 (.slice p1 1 c1) [p30]) := rd1
  clear s0 s1 s2 s3 s4 s5 s6 s7 s8 s9 rd1 b1 HS0 HB0
  have s0 := hS1.cell (i := 0) rfl; have s1 := hS1.cell (i := 1) rfl; have s2 := hS1.cell (i := 2) rfl; have s3 := hS1.cell (i := 3) rfl; have s4 := hS1.cell (i := 4) rfl; have s5 := hS1.cell (i := 5) rfl; have s6 := hS1.cell (i := 6) rfl; have s7 := hS1.cell (i := 7) rfl; have s8 := hS1.cell (i := 8) rfl; have s9 := hS1.cell (i := 9) rfl
  clear hS1
  go_upto_region 4 with (go_at_call 63; (with_reducible refine (H2.out _ _ HR1.out).mono ?_); rintro e w2 ⟨r2, rfl, b2⟩)
  have hS2 := HS1.out.below b2
  have HS2 := Lib.hid hS2; have HB2 := Lib.hid (below2 HB1.out b2); have HR2 := Lib.hid (ReadsL.below HR1.out b2)
  clear s0 s1 s2 s3 s4 s5 s6 s7 s8 s9 b2 HS1 HB1 HR1
  have s0 := hS2.cell (i := 0) rfl; have s1 := hS2.cell (i := 1) rfl; have s2 := hS2.cell (i := 2) rfl; have s3 := hS2.cell (i := 3) rfl
  clear hS2
  go_upto_region 5 with (go_at_call 67; (with_reducible refine (H3.out _ _ HR2.out).mono ?_); rintro e w3 ⟨r3, rfl, rd3, b3⟩; obtain ⟨hm3, p3, c3, rfl, -⟩ := pes_open rd3)
  have hS3 := HS2.out.below b3
  have HB3 := Lib.hid (below2 HB2.out b3); have HR3 := Lib.hid (ReadsL.below HR2.out b3)
  clear s0 s1 s2 s3 b3 HS2 HB2 HR2 rd3
  have s0 := hS3.cell (i := 0) rfl; have s1 := hS3.cell (i := 1) rfl; have s2 := hS3.cell (i := 2) rfl; have s3 := hS3.cell (i := 3) rfl
  clear hS3
  go_wp2_with (first
    | (go_at_call 71; (with_reducible refine (H4.out _ _ HR3.out).mono ?_); rintro e w4 ⟨rfl, b4⟩)
    | (go_at_call 65; (with_reducible refine (H5.out _ _ (ReadsL.below HR3.out b4)).mono ?_); rintro e w5 ⟨rfl, b5⟩))
  go_ret
  exact ⟨rfl, below2 HB3.out (below2 b4 b5)⟩
end Go.Proofs.Ytppmjbnhghaffaa
