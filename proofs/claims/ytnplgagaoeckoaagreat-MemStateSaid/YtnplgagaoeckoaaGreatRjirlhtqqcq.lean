/- Texts put together: LawMemA. No condition. -/
import Derived.Test.YtnplgagaoeckoaaGreatRchphfgrzko
import Derived.Test.YtnplgagaoeckoaaGreatRlqgwiumxhl
namespace Go.Proofs.YtnplgagaoeckoaaGreat
open Go.RowKit

def aw0 : Pm := newP 1 4 [] [] []
def awO1 : Oq := ⟨1, 0, 0, 0, 0, 0, 0, 0, ⟨⟨⟨false, 0, 0⟩, 0⟩, false, 0, 0, 0, 0, 0⟩, (.slice none 0 0, []), (.slice none 0 0, []), false⟩
def awO2 : Oq := ⟨7, 0, 1, 0, 0, 0, 5, 0, ⟨⟨⟨false, 0, 0⟩, 0⟩, false, 0, 0, 0, 0, 0⟩, (.slice none 0 0, []), (.slice none 0 0, []), false⟩
def awO3 : Oq := ⟨2, 0, 0, 0, 0, 0, 0, 0, ⟨⟨⟨false, 0, 0⟩, 0⟩, false, 0, 0, 0, 0, 0⟩, (.slice none 0 0, []), (.slice none 0 0, []), false⟩
def awO4 : Oq := ⟨1, 1, 0, 0, 0, 0, 0, 0, ⟨⟨⟨false, 0, 0⟩, 0⟩, false, 0, 0, 0, 0, 0⟩, (.slice none 0 0, []), (.slice none 0 0, []), false⟩
theorem nil_op (w : World) (o : Oq) (h1 : o.bans = (.slice none 0 0, [])) (h2 : o.book = (.slice none 0 0, [])) : OqAt w o := by
  unfold OqAt; rw [h1, h2]; exact ⟨ReadsL.nil _ _ _ _ _, ReadsL.nil _ _ _ _ _⟩
set_option maxRecDepth 100000 in
set_option maxHeartbeats 16000000 in
theorem awake37_any (w : World) : Calls Tryz.prog 8 #[] w fun e w' => e = .returned (.bool true) ∧ Below w.heap.size w w' := by
  have HNEW := Lib.hid (fun (W : World) => memNew_any plainCf (by decide) (.slice none 0 0) (.slice none 0 0) (.slice none 0 0) [] [] [] W (ReadsL.nil _ _ _ _ _) (ReadsL.nil _ _ _ _ _) (ReadsL.nil _ _ _ _ _) (fun p hp => by cases hp) (by decide) (by decide) (by decide))
  have HD1 := Lib.hid (fun (X : Nat → Prop) (m : Mm) (W : World) (hX : ∀ b, X b → b < W.heap.size) (hm : HoldOff X W fun W => MmAt W m) (hd : DoOk m) => memDo_off X m awO1 3 W hX hm (nil_op _ _ rfl rfl) (by decide) hd (by decide) (by decide))
  have HD2 := Lib.hid (fun (X : Nat → Prop) (m : Mm) (W : World) (hX : ∀ b, X b → b < W.heap.size) (hm : HoldOff X W fun W => MmAt W m) (hd : DoOk m) => memDo_off X m awO2 4 W hX hm (nil_op _ _ rfl rfl) (by decide) hd (by decide) (by decide))
  have HM3 := Lib.hid (fun (m : Mm) (W : World) (hm : MmAt W m) => memMay_any m awO3 4 W hm (nil_op _ _ rfl rfl))
  have HM4 := Lib.hid (fun (m : Mm) (W : World) (hm : MmAt W m) => memMay_any m awO4 4 W hm (nil_op _ _ rfl rfl))
  have HHD := Lib.hid (fun (m : Mm) (W : World) (hm : MmAt W m) (hl : m.locks.2.length ≤ 1000) => memHeld_any m 3 W hm (by decide) hl)
  unfold awO1 at HD1; unfold awO2 at HD2; unfold awO3 at HM3; unfold awO4 at HM4
  simp only [show ((0 : Nat) : Int) = 0 from rfl] at HD1 HD2 HM3 HM4
  go_enter Tryz.func8, Tryz.ntmps8
  go_upto_region 2 with (first
    | (go_at_call 28; (with_reducible refine (refCfPlain_any _).mono ?_); rintro e w1 ⟨rfl, b1⟩)
    | (go_at_call 9; (with_reducible refine (HNEW.out _).mono ?_); rintro e w2 ⟨m0, rfl, hN0, hp0, b2⟩; have hm0 := hN0 w2 (fun _ _ _ _ h => h); obtain ⟨x1, x2, x3, x4, xc1, xc2, xc3, xc4, u1, u2, u3, u4⟩ := mm_slices hm0; rw [u1, u2, u3, u4]))
  obtain ⟨W3, hW3⟩ : ∃ W3, W3 = w2.alloc (.cells #[.int .i64 m0.inn, .int .i64 m0.out, .slice x1 m0.bans.2.length xc1, .slice x2 m0.book.2.length xc2, .slice x3 m0.parts.2.length xc3, .slice x4 m0.locks.2.length xc4] 40) := ⟨_, rfl⟩
  rw [← hW3]
  have hX3 : BlockIs W3 w2.heap.size [.int .i64 m0.inn, .int .i64 m0.out, .slice x1 m0.bans.2.length xc1, .slice x2 m0.book.2.length xc2, .slice x3 m0.parts.2.length xc3, .slice x4 m0.locks.2.length xc4] 40 := by subst hW3; exact BlockIs.new w2 _ _
  obtain ⟨X, hX⟩ : ∃ X, X = w2.heap.size := ⟨_, rfl⟩
  have hO3 : HoldOff (fun b => b = X) W3 (fun W => MmAt W m0) := (HoldOff.new hN0 (fun b hb => Or.inr (by omega))).step (by subst hW3; exact keep_alloc w2 _)
  have B3 : Below w.heap.size w W3 := by subst hW3; exact (below2 b1 b2).alloc (below2 b1 b2).size _
  have hXw : w.heap.size ≤ X := by have := (below2 b1 b2).size; omega
  rw [← hX] at hX3
  rw [← hX]
  clear hW3 hN0 hm0 hX
  have hS0 : SmallP m0.pl 20 := by rw [hp0]; exact newP_small _ _ _ _ _ (by decide) (by decide) (by decide)
  have hL0 : LocksOk m0.pl := by rw [hp0]; exact newP_locks _ _ _ _ _
  have hD1 := HD1.out (fun b => b = X) m0 W3 (fun b hb => by have := hX3.lt; omega) hO3 (doOk_of hS0 (by decide) hL0)
  simp only [u1, u2, u3, u4] at hD1
  have HDD1 := Lib.hid hD1; have HB3 := Lib.hid B3
  clear hD1 hO3 B3 u1 u2 u3 u4 HNEW HD1
  have c0 := hX3.cell (i := 0) rfl; have c1 := hX3.cell (i := 1) rfl; have c2 := hX3.cell (i := 2) rfl; have c3 := hX3.cell (i := 3) rfl; have c4 := hX3.cell (i := 4) rfl; have c5 := hX3.cell (i := 5) rfl
  go_upto_region 3 with (first
    | (go_at_call 14; (with_reducible refine HDD1.out.mono ?_); rintro e w4 ⟨m1, v1, rfl, hO4, hV4, hp1, hq1, b4⟩; obtain ⟨y1, y2, y3, y4, yc1, yc2, yc3, yc4, u1, u2, u3, u4⟩ := mm_slices hO4.now; obtain ⟨_, va, vc, ev, _⟩ := ba_open hV4.now.1; obtain ⟨_, vka, vkc, ek, _⟩ := ey_open hV4.now.2; rw [u1, u2, u3, u4, ev, ek]; have hX4 := hX3.below b4; have B4 := below2 HB3.out b4)
    | (refine list_store_blk rfl 40 _ _ rfl X _ _ 40 hX4 rfl rfl (by kernel_rfl) rfl (by simp [Value.oneCell']) w.heap.size w B4 (by first | omega | exact hXw) ?_; intro w5 hX5 hoth5 hsz5 bw5))
  have hO5 : HoldOff (fun b => b = X) w5 (fun W => MmAt W m1) := hO4.step fun b arr T hb hh => hoth5 b arr T hb hh
  have hS1 : SmallP m1.pl 21 := by rw [hp1]; exact doP_small hS0 _ (by decide) _
  have hL1 : LocksOk m1.pl := by rw [hp1]; exact doP_locks hL0 _ _
  have hD2 := HD2.out (fun b => b = X) m1 w5 (fun b hb => by have := hX5.lt; omega) hO5 (doOk_of hS1 (by decide) hL1)
  simp only [u1, u2, u3, u4] at hD2
  have HDD2 := Lib.hid hD2; have HB5 := Lib.hid bw5; have HP1 := Lib.hid hp1
  clear hD2 hO5 hO4 hV4 hq1 bw5 hoth5 u1 u2 u3 u4 ev ek HD2 c0 c1 c2 c3 c4 c5 hX4 hX3
  have c0 := hX5.cell (i := 0) rfl; have c1 := hX5.cell (i := 1) rfl; have c2 := hX5.cell (i := 2) rfl; have c3 := hX5.cell (i := 3) rfl; have c4 := hX5.cell (i := 4) rfl; have c5 := hX5.cell (i := 5) rfl
  go_upto_region 4 with (first
    | (go_at_call 14; (with_reducible refine HDD2.out.mono ?_); rintro e w6 ⟨m2, v2, rfl, hO6, hV6, hp2, hq2, b6⟩; obtain ⟨z1, z2, z3, z4, zc1, zc2, zc3, zc4, u1, u2, u3, u4⟩ := mm_slices hO6.now; obtain ⟨_, wa, wc, ev, _⟩ := ba_open hV6.now.1; obtain ⟨_, wka, wkc, ek, _⟩ := ey_open hV6.now.2; rw [u1, u2, u3, u4, ev, ek]; have hX6 := (hX5.below b6).alloc' (.cells #[.int .i64 0, .bool false, .int .u64 0, .int .u64 0, .int .i64 0, .bool false, .int .i64 0, .int .i64 0, .int .i64 0, .int .i64 0, .int .i64 0, .slice none 0 0, .slice none 0 0] 54); have hY6 := BlockIs.new w6 [.int .i64 0, .bool false, .int .u64 0, .int .u64 0, .int .i64 0, .bool false, .int .i64 0, .int .i64 0, .int .i64 0, .int .i64 0, .int .i64 0, .slice none 0 0, .slice none 0 0] 54; have B6 := below2 HB5.out b6)
    | (refine list_store_blk rfl 40 _ _ rfl X _ _ 40 hX6 rfl rfl (by kernel_rfl) rfl (by simp [Value.oneCell']) w.heap.size w (B6.alloc B6.size _) (by first | omega | exact hXw) ?_; intro w7 hX7 hoth7 hsz7 bw7)
    | (refine list_store_blk rfl 54 _ _ rfl w6.heap.size _ _ 54 (hoth7 _ _ _ (by have := hX5.lt; have := b6.size; omega) hY6) rfl rfl (by kernel_rfl) rfl (by simp [Value.oneCell']) w.heap.size w bw7 B6.size ?_; intro w8 hY8 hoth8 hsz8 bw8))
  have hX8 := hoth8 _ _ _ (by have := hX5.lt; have := b6.size; omega) hX7
  have hM8 : MmAt w8 m2 := hO6 w8 fun b arr T hb hh => hoth8 b arr T (by have := hh.lt; omega) (hoth7 b arr T hb (hh.alloc' _))
  have hp2' : m2.pl = (doP (doP aw0 awO1 3).1 awO2 4).1 := by rw [hp2, HP1.out, hp0]; rfl
  have hq2' : v2.pl = (doP (doP aw0 awO1 3).1 awO2 4).2 := by rw [hq2, HP1.out, hp0]; rfl
  have hinn : m2.inn = 5 := by
    exact (congrArg Pm.inn hp2').trans (by kernel_rfl)
  have hvn : v2.n = 1 := by
    exact (congrArg Vp.n hq2').trans (by kernel_rfl)
  have hm3 : mayP m2.pl awO3 = false := by rw [hp2']; kernel_rfl
  have hm4 : mayP m2.pl awO4 = true := by rw [hp2']; kernel_rfl
  have hhl : (heldP m2.pl 3).length = 1 := by rw [hp2']; kernel_rfl
  have hll : m2.locks.2.length ≤ 1000 := by
    have : m2.locks.2.length = m2.pl.locks.length := by unfold Mm.pl; simp
    rw [this, hp2']; decide
  have hM3 := fun (W : World) (hb : Below w8.heap.size w8 W) => HM3.out m2 W (hM8.below hb)
  have hM4 := fun (W : World) (hb : Below w8.heap.size w8 W) => HM4.out m2 W (hM8.below hb)
  have hHD := fun (W : World) (hb : Below w8.heap.size w8 W) => HHD.out m2 W (hM8.below hb) hll
  rw [show mayP m2.pl ⟨2, 0, 0, 0, 0, 0, 0, 0, ⟨⟨⟨false, 0, 0⟩, 0⟩, false, 0, 0, 0, 0, 0⟩, (.slice none 0 0, []), (.slice none 0 0, []), false⟩ = false from hm3] at hM3
  rw [show mayP m2.pl ⟨1, 1, 0, 0, 0, 0, 0, 0, ⟨⟨⟨false, 0, 0⟩, 0⟩, false, 0, 0, 0, 0, 0⟩, (.slice none 0 0, []), (.slice none 0 0, []), false⟩ = true from hm4] at hM4
  rw [hhl] at hHD
  simp only [u1, u2, u3, u4, hinn] at hM3 hM4 hHD
  rw [hinn] at hX8; rw [hvn] at hY8
  have HM3' := Lib.hid hM3; have HM4' := Lib.hid hM4; have HHD' := Lib.hid hHD; have HB8 := Lib.hid bw8
  have hYX : w6.heap.size < w8.heap.size := hY8.lt
  clear hM3 hM4 hHD HM3 HM4 HHD hM8 hp2 hq2 hp2' hq2' hm3 hm4 hhl hll hinn hvn u1 u2 u3 u4 ev ek hO6 hV6 hoth7 hoth8 bw7 bw8 hX6 hY6 hX7 c0 c1 c2 c3 c4 c5
  have c0 := hX8.cell (i := 0) rfl; have c1 := hX8.cell (i := 1) rfl; have c2 := hX8.cell (i := 2) rfl; have c3 := hX8.cell (i := 3) rfl; have c4 := hX8.cell (i := 4) rfl; have c5 := hX8.cell (i := 5) rfl; have d0 := hY8.cell (i := 0) rfl
  go_wp2_with (first
    | (go_at_call 12; (first | (with_reducible refine (HM3'.out _ (Below.refl _ _)).mono ?_) | (with_reducible refine (HM4'.out _ b9).mono ?_)); rintro e w10 ⟨rfl, b10⟩; have b9 := (by first | exact below2 b9 b10 | exact b10 : Below w8.heap.size w8 w10); have hX10 := hX8.below b9; have hY10 := hY8.below b9; clear c0 c1 c2 c3 c4 c5 d0; have c0 := hX10.cell (i := 0) rfl; have c1 := hX10.cell (i := 1) rfl; have c2 := hX10.cell (i := 2) rfl; have c3 := hX10.cell (i := 3) rfl; have c4 := hX10.cell (i := 4) rfl; have c5 := hX10.cell (i := 5) rfl; have d0 := hY10.cell (i := 0) rfl)
    | (go_at_call 18; (with_reducible refine (HHD'.out _ b9).mono ?_); rintro e w11 ⟨ha, hc, rfl, hr, b11⟩; have b9 := below2 b9 b11))
  go_ret
  exact ⟨rfl, below2 HB8.out b9⟩
end Go.Proofs.YtnplgagaoeckoaaGreat
