/- Texts put together: LawBfT. No condition. -/
import Derived.Test.YtdmobgdgeiiicaaGreatRcjhfnyzzrm
import Derived.Test.YtdmobgdgeiiicaaGreatRtnnxvkkapj
namespace Go.Proofs.YtdmobgdgeiiicaaGreat
open Go.RowKit

set_option maxRecDepth 100000 in
set_option maxHeartbeats 16000000 in
theorem banfileTells_any (v : Value) (l : List Ba) (s : ByteArray) (most : Int) (w : World) (h : ReadsL baV 5 w v l) (hf : ∀ x ∈ l, x.nt.ad.fits) (hm : -9223372036854775808 ≤ most ∧ most ≤ 9223372036854775807) (hc : Cpu w) :
    Calls Tryz.prog 3 #[v, .string s, .int .i64 most] w fun e w' => e = .returned (.bool true) ∧ Below w.heap.size w w' := by
  have HV := Lib.hid h
  have HA := Lib.hid (fun w hc => awake14_any w hc)
  have HC := Lib.hid hc; clear hc
  obtain ⟨hm1, pa, ca, rfl, h3⟩ := bas_open h
  clear h h3
  rcases Int.lt_or_le 60 (l.length : Int) with hlen | hlen
  · go_enter Tryz.func3, Tryz.ntmps3
    go_wp2_with (go_at_call 4; (with_reducible refine (HA.out _ HC.out).mono ?_); rintro e w2 ⟨rfl, b2⟩)
    go_ret
    exact ⟨rfl, b2⟩
  rcases Int.lt_or_le 4000 (s.size : Int) with hsl | hsl
  · go_enter Tryz.func3, Tryz.ntmps3
    go_wp2_with (go_at_call 4; (with_reducible refine (HA.out _ HC.out).mono ?_); rintro e w2 ⟨rfl, b2⟩)
    go_ret
    exact ⟨rfl, b2⟩
  have hlenn : ¬ (60 : Int) < (l.length : Int) := by omega
  have hsln : ¬ (4000 : Int) < (s.size : Int) := by omega
  have HT1 := Lib.hid (fun (W : World) (hb : Below w.heap.size w W) => bfText_any _ l W (ReadsL.below HV.out hb) hf (by omega))
  have HT2 := Lib.hid (fun (W : World) (hb : Below w.heap.size w W) => refBfText_any _ l W (ReadsL.below HV.out hb) hf (by omega))
  have HP1 := Lib.hid (fun (W : World) (hc : Cpu W) => bfParse_any s most W (by omega) hc)
  have HP2 := Lib.hid (fun (W : World) => refBfParse_any s most W (by omega) hm)
  have HSm := Lib.hid (fun v u W L hv hu => bans_same v u L W hv hu)
  unfold GivesBf at HP1 HP2
  generalize bfParse s.data.toList most = r at *
  obtain ⟨r, at_, code⟩ := r
  simp only at HP1 HP2
  have hbt : ((bs (bfText l)).toList == (bs (bfText l)).toList) = true := by simp
  generalize bs (bfText l) = tx at *
  go_enter Tryz.func3, Tryz.ntmps3
  go_wp2_with (first
    | (go_at_call 5; (with_reducible refine (HP1.out _ HC.out).mono ?_); rintro e w1 ⟨r1, rfl, rd1, b1⟩; obtain ⟨_, p1, c1, rfl, _⟩ := bas_open rd1)
    | (go_at_call 6; (with_reducible refine (HP2.out _).mono ?_); rintro e w3 ⟨r3, rfl, rd3, b3⟩; obtain ⟨_, p3, c3, rfl, _⟩ := bas_open rd3; have b4 := below2 b1 b3)
    | (go_at_call 7; (with_reducible refine (HT1.out _ b4).mono ?_); rintro e w5 ⟨rfl, b5⟩; have b6 := below2 b4 b5)
    | (go_at_call 8; (with_reducible refine (HT2.out _ b6).mono ?_); rintro e w7 ⟨rfl, b7⟩; have b8 := below2 b6 b7; have x1 := ReadsL.below rd1 (below2 b3 (below2 b5 b7)); have x3 := ReadsL.below rd3 (below2 b5 b7))
    | (go_at_call 9; (with_reducible refine (HSm.out _ _ _ _ x1 x3).mono ?_); rintro e w9 ⟨rfl, b9⟩; have b10 := below2 b8 b9)
    | (go_at_call 4; (with_reducible refine (HA.out _ (HC.out.below b10)).mono ?_); rintro e w11 ⟨rfl, b11⟩))
  go_ret
  exact ⟨rfl, below2 b10 b11⟩
end Go.Proofs.YtdmobgdgeiiicaaGreat
