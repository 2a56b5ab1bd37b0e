/- slices.SortStableFunc and its fellows, at ints: what the row holds behind each. Conditions: as each theorem says (an order that lays blocks at most). -/
import Derived.Test.YtppmjbnhghaffaaQ668131zdrcan
import Derived.Test.YtppmjbnhghaffaaRows
import Derived.WalkKit
import Derived.Test.YtppmjbnhghaffaaSortW
import Derived.Sort.WalkA
import Derived.Sort.WalkB2
import Derived.Sort.WalkB12
import Derived.Deep.LoopGhost
import Derived.BigRegion
namespace Go.Proofs.Ytppmjbnhghaffaa
open Go.Shelf Go.RowKit Go.Lib Go.Sort

theorem size_swpR {α : Type} [Inhabited α] (a b : Nat) : ∀ (n i : Nat) (d : Array α), (swpR a b n i d).size = d.size
  | 0, _, _ => rfl
  | n + 1, i, d => by unfold swpR; rw [size_swpR a b n, size_swp]
theorem rotA_fuel {α : Type} [Inhabited α] (m : Nat) : ∀ (f f' i j : Nat) (d : Array α), 0 < i → 0 < j → i + j ≤ f → i + j ≤ f' → rotA m f i j d = rotA m f' i j d
  | 0, _, i, j, d, hi, hj, h1, h2 => by omega
  | _, 0, i, j, d, hi, hj, h1, h2 => by omega
  | f + 1, f' + 1, i, j, d, hi, hj, h1, h2 => by
    unfold rotA
    by_cases e : i = j
    · rw [if_pos e, if_pos e]
    · rw [if_neg e, if_neg e]
      by_cases e2 : j < i
      · rw [if_pos e2, if_pos e2, rotA_fuel m f f' (i - j) j _ (by omega) hj (by omega) (by omega)]
      · rw [if_neg e2, if_neg e2, rotA_fuel m f f' i (j - i) _ hi (by omega) (by omega) (by omega)]

set_option maxHeartbeats 4000000 in
set_option maxRecDepth 100000 in
theorem swapRange_s (a b n : Nat) {α : Type} [Inhabited α] (enc : α → Value) (g : Nat) (cb : Array Value) (blk off cap : Nat) (d0 d : Array α) (w0 w : World) (R : Row1 enc w0 blk off d0) (hs : d0.size = d.size) (S : SB enc w0 blk off d w) (ha : a + n ≤ d.size) (hb : b + n ≤ d.size) (hsz : d.size < 4611686018427387904) :
    Calls Try.prog 203 #[.slice (some ⟨blk, off, none⟩) d.size cap, .int .i64 a, .int .i64 b, .int .i64 n, .func (.func g) #[] cb] w fun e w' => e = .returned (.tuple #[]) ∧ SB enc w0 blk off (swpR a b n 0 d) w' := by
  have mixed : Try.prog.follows .mixedOrders = true := by kernel_rfl
  have hcl0 := R.hO.cells
  simp only [Value.cells] at hcl0
  have hst := R.hO.store Try.prog
  have S0 : Aside _ := S
  clear S
  go_enter Try.func203, Try.ntmps203
  go_wp2
  go_loopg [10] n (fun g1 vi wr => ∃ (i : Nat) (dk : Array α), vi = .int .i64 i ∧ i ≤ n ∧ n - i ≤ g1 ∧ dk.size = d.size ∧ Aside (SB enc w0 blk off dk wr) ∧ Hid (swpR a b (n - i) i dk = swpR a b n 0 d))
  case atStart => exact ⟨0, d, by first | rfl | go_num, by omega, by omega, rfl, S0, rfl⟩
  case round =>
    clear S0
    obtain ⟨i, dk, rfl, hin, hg1, hsk, S1, HO⟩ := hrel
    by_cases hlt : i < n
    · have hltz : (i : Int) < (n : Int) := by omega
      obtain ⟨iN1, hiN1⟩ : ∃ q, q = a + i := ⟨_, rfl⟩
      obtain ⟨jN1, hjN1⟩ : ∃ q, q = b + i := ⟨_, rfl⟩
      have ea1 : ((a : Int) + (i : Int)).toNat = iN1 := by omega
      have pa1 : (0 : Int) ≤ (a : Int) + (i : Int) := by omega
      have ba1 : (a : Int) + (i : Int) < (d.size : Int) := by omega
      have ra1 : IntKind.i64.wrap ((a : Int) + (i : Int)) = (a : Int) + (i : Int) := by rw [IntKind.wrap_i64]; omega
      have ec1 : ((b : Int) + (i : Int)).toNat = jN1 := by omega
      have pc1 : (0 : Int) ≤ (b : Int) + (i : Int) := by omega
      have bc1 : (b : Int) + (i : Int) < (d.size : Int) := by omega
      have rc1 : IntKind.i64.wrap ((b : Int) + (i : Int)) = (b : Int) + (i : Int) := by rw [IntKind.wrap_i64]; omega
      obtain ⟨x1, hx1⟩ : ∃ x, x = dk[a + i]! := ⟨_, rfl⟩
      obtain ⟨y1, hy1⟩ : ∃ x, x = dk[b + i]! := ⟨_, rfl⟩
      have S3 : Aside (SB enc w0 blk off (swp dk (a + i) (b + i)) ((wr.setCell ⟨blk, off + iN1, none⟩ (enc y1)).setCell ⟨blk, off + jN1, none⟩ (enc x1)).drew) := by rw [hiN1, hjN1, hx1, hy1]; exact S1.out.swapped R (a + i) (b + i) (by omega) (by omega)
      have c1a := S1.out.c1 R (by omega) (a + i) (by omega)
      have c1b := S1.out.c1 R (by omega) (b + i) (by omega)
      have f1a := S1.out.f1 R (by omega) (a + i) (by omega)
      have f1b := S1.out.f1 R (by omega) (b + i) (by omega)
      obtain ⟨u1, c1c⟩ := S1.out.c2 R (by omega) (a + i) (b + i) (by omega) (by omega) (enc y1)
      rw [← hjN1, ← hiN1] at c1c
      rw [← hx1, ← hiN1] at c1a
      rw [← hy1, ← hjN1] at c1b
      rw [← hiN1] at f1a
      rw [← hjN1] at f1b
      clear S1 hx1 hy1 hiN1 hjN1
      go_wp2_with fail
      go_big_region_o
      clear c1a c1b c1c f1a f1b
      generalize ((wr.setCell ⟨blk, off + iN1, none⟩ (enc y1)).setCell ⟨blk, off + jN1, none⟩ (enc x1)).drew = w3 at S3 ⊢
      clear ea1 ec1
      go_wp2
      go_roundg (n - (i + 1))
      case measure => omega
      case rel => exact ⟨i + 1, swp dk (a + i) (b + i), by first | rfl | go_num | (congr 1; omega), by omega, Nat.le_refl _, by rw [size_swp]; exact hsk, S3, (show Hid _ from by rw [← HO.out, show n - i = (n - (i + 1)) + 1 by omega]; exact rfl)⟩
    · obtain rfl : n = i := by omega
      have HF : Hid (swpR a b n 0 d = dk) := by show _ = _; rw [← HO.out, Nat.sub_self]; rfl
      go_wp2
      go_end0
      exact ⟨rfl, by rw [HF.out]; exact S1.out⟩
set_option maxHeartbeats 4000000 in
set_option maxRecDepth 100000 in
theorem rotate_s (a m b : Nat) {α : Type} [Inhabited α] (enc : α → Value) (g : Nat) (cb : Array Value) (blk off cap : Nat) (d0 d : Array α) (w0 w : World) (R : Row1 enc w0 blk off d0) (hs : d0.size = d.size) (S : SB enc w0 blk off d w) (ha : a < m) (hm : m < b) (hb : b ≤ d.size) (hsz : d.size < 4611686018427387904) :
    Calls Try.prog 202 #[.slice (some ⟨blk, off, none⟩) d.size cap, .int .i64 a, .int .i64 m, .int .i64 b, .func (.func g) #[] cb] w fun e w' => e = .returned (.tuple #[]) ∧ SB enc w0 blk off (rotA m (b - a) (m - a) (b - m) d) w' := by
  have mixed : Try.prog.follows .mixedOrders = true := by kernel_rfl
  have hcl0 := R.hO.cells
  simp only [Value.cells] at hcl0
  have hst := R.hO.store Try.prog
  have S0 : Aside _ := S
  clear S
  go_enter Try.func202, Try.ntmps202
  go_wp2
  go_loopg [10, 11] (b - a) (fun g1 vi vj wr => ∃ (i j : Nat) (dk : Array α), vi = .int .i64 i ∧ vj = .int .i64 j ∧ 0 < i ∧ 0 < j ∧ a + i ≤ m ∧ m + j ≤ b ∧ i + j ≤ g1 ∧ dk.size = d.size ∧ Aside (SB enc w0 blk off dk wr) ∧ Hid (∀ f, i + j ≤ f → rotA m f i j dk = rotA m (b - a) (m - a) (b - m) d))
  case atStart => exact ⟨m - a, b - m, d, by first | go_num | (congr 1; omega), by first | go_num | (congr 1; omega), by omega, by omega, by omega, by omega, by omega, rfl, S0, fun f hf => rotA_fuel m f (b - a) (m - a) (b - m) d (by omega) (by omega) (by omega) (by omega)⟩
  case round =>
    clear S0
    obtain ⟨i, j, dk, rfl, rfl, hi0, hj0, hai, hjb, hg1, hsk, S1, HO⟩ := hrel
    by_cases hne : i = j
    · subst hne
      have hsw := swapRange_s (m - i) m i enc g cb blk off cap d0 dk w0 wr R (by omega) S1.out (by omega) (by omega) (by omega)
      rw [hsk, show ((m - i : Nat) : Int) = (m : Int) - (i : Int) by omega] at hsw
      have HF : Hid (swpR (m - i) m i 0 dk = rotA m (b - a) (m - a) (b - m) d) := by show _ = _; rw [← HO.out (i + i + 1) (by omega)]; unfold rotA; rw [if_pos rfl]
      go_wp2_with (go_at_call 203; refine hsw.mono ?_; rintro e w2 ⟨rfl, S2⟩)
      go_end0
      exact ⟨rfl, by rw [← HF.out]; exact S2⟩
    · have hnez : ((i : Int) == (j : Int)) = false := beq_eq_false_iff_ne.2 (by omega)
      have hnz : ¬ ((i : Int) = (j : Int)) := by omega
      by_cases hji : j < i
      · have hjiz : (j : Int) < (i : Int) := by omega
        have hsw := swapRange_s (m - i) m j enc g cb blk off cap d0 dk w0 wr R (by omega) S1.out (by omega) (by omega) (by omega)
        rw [hsk, show ((m - i : Nat) : Int) = (m : Int) - (i : Int) by omega] at hsw
        go_wp2_with (go_at_call 203; refine hsw.mono ?_; rintro e w2 ⟨rfl, S2⟩)
        have S2' : Aside _ := S2
        clear S2
        go_roundg (i - j + j)
        case measure => omega
        case rel => exact ⟨i - j, j, _, by first | go_num | (congr 1; omega), rfl, by omega, hj0, by omega, hjb, by omega, by rw [size_swpR]; exact hsk, S2', (show Hid _ from fun f hf => by rw [← HO.out (f + j + 1) (by omega)]; (conv => rhs; unfold rotA; rw [if_neg hne, if_pos hji]); exact rotA_fuel m f (f + j) (i - j) j _ (by omega) hj0 (by omega) (by omega))⟩
      · have hjiz : ¬ ((j : Int) < (i : Int)) := by omega
        have hsw := swapRange_s (m - i) (m + j - i) i enc g cb blk off cap d0 dk w0 wr R (by omega) S1.out (by omega) (by omega) (by omega)
        rw [hsk, show ((m - i : Nat) : Int) = (m : Int) - (i : Int) by omega, show ((m + j - i : Nat) : Int) = (m : Int) + (j : Int) - (i : Int) by omega] at hsw
        go_wp2_with (go_at_call 203; refine hsw.mono ?_; rintro e w2 ⟨rfl, S2⟩)
        have S2' : Aside _ := S2
        clear S2
        go_roundg (i + (j - i))
        case measure => omega
        case rel => exact ⟨i, j - i, _, rfl, by first | go_num | (congr 1; omega), hi0, by omega, hai, by omega, by omega, by rw [size_swpR]; exact hsk, S2', (show Hid _ from fun f hf => by rw [← HO.out (f + i + 1) (by omega)]; (conv => rhs; unfold rotA; rw [if_neg hne, if_neg hji]); exact rotA_fuel m f (f + i) i (j - i) _ hi0 (by omega) (by omega) (by omega))⟩
set_option maxHeartbeats 4000000 in
set_option maxRecDepth 100000 in
theorem insSort_s (a b : Nat) {α : Type} [Inhabited α] (enc : α → Value) (cf : α → α → Int) (g : Nat) (cb : Array Value) (blk off cap : Nat) (d0 d : Array α) (w0 w : World) (eg : ∀ args w, (callFunc g args).run Try.prog w = .ok (.enter g args) w) (hcmp : CmpB Try.prog g cb enc cf blk off d0.size w0) (R : Row1 enc w0 blk off d0) (hs : d0.size = d.size) (S : SB enc w0 blk off d w) (hab : a ≤ b) (hb : b ≤ d.size) (hsz : d.size < 4611686018427387904) :
    Calls Try.prog 200 #[.slice (some ⟨blk, off, none⟩) d.size cap, .int .i64 a, .int .i64 b, .func (.func g) #[] cb] w fun e w' => e = .returned (.tuple #[]) ∧ SB enc w0 blk off (Sort.insertionSort (ltOf cf) d a b) w' := by
  have mixed : Try.prog.follows .mixedOrders = true := by kernel_rfl
  have hcl0 := R.hO.cells
  simp only [Value.cells] at hcl0
  have hst := R.hO.store Try.prog
  have HC : Aside _ := hcmp
  have S0 : Aside _ := S
  clear S hcmp
  go_enter Try.func200, Try.ntmps200
  go_wp2
  go_loopg [8] (b - a) (fun g1 vi wr => ∃ (i : Nat) (dk : Array α), vi = .int .i64 i ∧ a < i ∧ i ≤ b + 1 ∧ b + 1 - i ≤ g1 + 1 ∧ dk.size = d.size ∧ Aside (SB enc w0 blk off dk wr) ∧ Hid (insOuter (ltOf cf) a b i dk = insOuter (ltOf cf) a b (a + 1) d))
  case atStart => exact ⟨a + 1, d, by go_num, by omega, by omega, by omega, rfl, S0, rfl⟩
  case round =>
    clear S0
    obtain ⟨i, dk, rfl, hai, hib, hg1, hsk, S1, HO⟩ := hrel
    by_cases hlt : i < b
    · have hltz : (i : Int) < (b : Int) := by omega
      go_wp2
      go_loopg [9] i (fun g2 vj wr2 => ∃ (j : Nat) (dj : Array α), vj = .int .i64 j ∧ a ≤ j ∧ j ≤ i ∧ j ≤ g2 ∧ dj.size = d.size ∧ Aside (SB enc w0 blk off dj wr2) ∧ Hid (insInner (ltOf cf) a j dj = insInner (ltOf cf) a i dk))
      case atStart => exact ⟨i, dk, rfl, by omega, Nat.le_refl _, Nat.le_refl _, hsk, S1, rfl⟩
      case round =>
        clear S1
        obtain ⟨j, dj, rfl, haj, hji, hg2, hsj, SJ, HI⟩ := hrel
        have out : (j ≤ a ∨ (ltOf cf) dj[j]! dj[j - 1]! = false) → Hid (insOuter (ltOf cf) a b (i + 1) dj = insOuter (ltOf cf) a b (a + 1) d) := fun hs => by
          show _ = _
          rw [← HO.out, insOuter_go _ _ _ _ _ hlt, ← HI.out, insInner_stop _ _ _ _ hs]
        have OUT : Aside _ := out
        clear out
        by_cases hja : a < j
        · have hjaz : (a : Int) < (j : Int) := by omega
          obtain ⟨jp, hjp⟩ : ∃ q, q + 1 = j := ⟨j - 1, by omega⟩
          have zjp : (j : Int) = (jp : Int) + 1 := by omega
          have hjad : decide ((jp : Int) + 1 > (a : Int)) = true := decide_eq_true (by omega)
          have hjaz' : (a : Int) < (jp : Int) + 1 := by omega
          cases hlv : (ltOf cf) dj[j]! dj[j - 1]! with
          | true =>
            obtain ⟨iN2, hiN2⟩ : ∃ q, q = j := ⟨_, rfl⟩
            obtain ⟨jN2, hjN2⟩ : ∃ q, q = j - 1 := ⟨_, rfl⟩
            have ea2 : ((jp : Int) + 1).toNat = iN2 := by omega
            have pa2 : (0 : Int) ≤ (jp : Int) + 1 := by omega
            have ba2 : (jp : Int) + 1 < (d.size : Int) := by omega
            have ra2 : IntKind.i64.wrap ((jp : Int) + 1) = (jp : Int) + 1 := by rw [IntKind.wrap_i64]; omega
            have ec2 : ((jp : Int)).toNat = jN2 := by omega
            have pc2 : (0 : Int) ≤ (jp : Int) := by omega
            have bc2 : (jp : Int) < (d.size : Int) := by omega
            have rc2 : IntKind.i64.wrap ((jp : Int)) = (jp : Int) := by rw [IntKind.wrap_i64]; omega
            obtain ⟨x2, hx2⟩ : ∃ x, x = dj[j]! := ⟨_, rfl⟩
            obtain ⟨y2, hy2⟩ : ∃ x, x = dj[j - 1]! := ⟨_, rfl⟩
            have l2a := SJ.out.cl R (by omega) (j) (by omega)
            have l2b := SJ.out.cl R (by omega) (j - 1) (by omega)
            rw [← hx2, ← hiN2] at l2a
            rw [← hy2, ← hjN2] at l2b
            have hc2 := SJ.out.cmp HC.out (by omega) x2 y2
            have hv2 : cf x2 y2 < 0 := by rw [hx2, hy2]; exact of_decide_eq_true hlv
            have hd2 : decide (cf x2 y2 < 0) = true := decide_eq_true hv2
            clear hx2 hy2 hiN2 hjN2
            go_wp2_with fail
            refine wp_region_ext (by kernel_rfl) (by kernel_rfl) ?_
            repeat (go_big_quiet_step ((first | (go_at_fn g; with_reducible exact qe (hc2 _)))))
            refine wpQuiet_nil ?_
            intro _ hw'
            obtain ⟨gx, hw''⟩ := hw'
            subst hw''
            have S2 : Aside (SB enc w0 blk off dj (Go.Proofs.Ytppmjbnhghaffaa.ext wr gx)) := SJ.out.ext gx
            clear l2a l2b hc2 SJ
            generalize Go.Proofs.Ytppmjbnhghaffaa.ext wr gx = w2 at S2 ⊢
            clear gx
            clear ea2 ec2
            go_wp2_with fail
            obtain ⟨iN3, hiN3⟩ : ∃ q, q = j := ⟨_, rfl⟩
            obtain ⟨jN3, hjN3⟩ : ∃ q, q = j - 1 := ⟨_, rfl⟩
            have ea3 : ((jp : Int) + 1).toNat = iN3 := by omega
            have pa3 : (0 : Int) ≤ (jp : Int) + 1 := by omega
            have ba3 : (jp : Int) + 1 < (d.size : Int) := by omega
            have ra3 : IntKind.i64.wrap ((jp : Int) + 1) = (jp : Int) + 1 := by rw [IntKind.wrap_i64]; omega
            have ec3 : ((jp : Int)).toNat = jN3 := by omega
            have pc3 : (0 : Int) ≤ (jp : Int) := by omega
            have bc3 : (jp : Int) < (d.size : Int) := by omega
            have rc3 : IntKind.i64.wrap ((jp : Int)) = (jp : Int) := by rw [IntKind.wrap_i64]; omega
            obtain ⟨x3, hx3⟩ : ∃ x, x = dj[j]! := ⟨_, rfl⟩
            obtain ⟨y3, hy3⟩ : ∃ x, x = dj[j - 1]! := ⟨_, rfl⟩
            have S3 : Aside (SB enc w0 blk off (swp dj (j) (j - 1)) ((w2.setCell ⟨blk, off + iN3, none⟩ (enc y3)).setCell ⟨blk, off + jN3, none⟩ (enc x3)).drew) := by rw [hiN3, hjN3, hx3, hy3]; exact S2.out.swapped R (j) (j - 1) (by omega) (by omega)
            have c3a := S2.out.c1 R (by omega) (j) (by omega)
            have c3b := S2.out.c1 R (by omega) (j - 1) (by omega)
            have f3a := S2.out.f1 R (by omega) (j) (by omega)
            have f3b := S2.out.f1 R (by omega) (j - 1) (by omega)
            obtain ⟨u3, c3c⟩ := S2.out.c2 R (by omega) (j) (j - 1) (by omega) (by omega) (enc y3)
            rw [← hjN3, ← hiN3] at c3c
            rw [← hx3, ← hiN3] at c3a
            rw [← hy3, ← hjN3] at c3b
            rw [← hiN3] at f3a
            rw [← hjN3] at f3b
            clear S2 hx3 hy3 hiN3 hjN3
            go_wp2_with fail
            go_big_region_o
            clear c3a c3b c3c f3a f3b
            generalize ((w2.setCell ⟨blk, off + iN3, none⟩ (enc y3)).setCell ⟨blk, off + jN3, none⟩ (enc x3)).drew = w3 at S3 ⊢
            clear ea3 ec3
            go_wp2
            go_roundg (j - 1)
            case measure => omega
            case rel => exact ⟨j - 1, swp dj j (j - 1), by first | rfl | go_num | (congr 1; omega), by omega, by omega, Nat.le_refl _, by rw [size_swp]; exact hsj, S3, (show Hid _ from by rw [← HI.out, insInner_go (ltOf cf) a j dj hja hlv]; exact rfl)⟩
          | false =>
            obtain ⟨iN4, hiN4⟩ : ∃ q, q = j := ⟨_, rfl⟩
            obtain ⟨jN4, hjN4⟩ : ∃ q, q = j - 1 := ⟨_, rfl⟩
            have ea4 : ((jp : Int) + 1).toNat = iN4 := by omega
            have pa4 : (0 : Int) ≤ (jp : Int) + 1 := by omega
            have ba4 : (jp : Int) + 1 < (d.size : Int) := by omega
            have ra4 : IntKind.i64.wrap ((jp : Int) + 1) = (jp : Int) + 1 := by rw [IntKind.wrap_i64]; omega
            have ec4 : ((jp : Int)).toNat = jN4 := by omega
            have pc4 : (0 : Int) ≤ (jp : Int) := by omega
            have bc4 : (jp : Int) < (d.size : Int) := by omega
            have rc4 : IntKind.i64.wrap ((jp : Int)) = (jp : Int) := by rw [IntKind.wrap_i64]; omega
            obtain ⟨x4, hx4⟩ : ∃ x, x = dj[j]! := ⟨_, rfl⟩
            obtain ⟨y4, hy4⟩ : ∃ x, x = dj[j - 1]! := ⟨_, rfl⟩
            have l4a := SJ.out.cl R (by omega) (j) (by omega)
            have l4b := SJ.out.cl R (by omega) (j - 1) (by omega)
            rw [← hx4, ← hiN4] at l4a
            rw [← hy4, ← hjN4] at l4b
            have hc4 := SJ.out.cmp HC.out (by omega) x4 y4
            have hv4 : ¬ cf x4 y4 < 0 := by rw [hx4, hy4]; exact of_decide_eq_false hlv
            have hd4 : decide (cf x4 y4 < 0) = false := decide_eq_false hv4
            clear hx4 hy4 hiN4 hjN4
            go_wp2_with fail
            refine wp_region_ext (by kernel_rfl) (by kernel_rfl) ?_
            repeat (go_big_quiet_step ((first | (go_at_fn g; with_reducible exact qe (hc4 _)))))
            refine wpQuiet_nil ?_
            intro _ hw'
            obtain ⟨gx, hw''⟩ := hw'
            subst hw''
            have S2 : Aside (SB enc w0 blk off dj (Go.Proofs.Ytppmjbnhghaffaa.ext wr gx)) := SJ.out.ext gx
            clear l4a l4b hc4 SJ
            generalize Go.Proofs.Ytppmjbnhghaffaa.ext wr gx = w2 at S2 ⊢
            clear gx
            clear ea4 ec4
            go_wp2
            go_roundg (b - (i + 1))
            case measure => omega
            case rel => exact ⟨i + 1, dj, by first | rfl | go_num | (congr 1; omega), by omega, by omega, by omega, hsj, S2, OUT.out (Or.inr hlv)⟩
        · have hjaz : ¬ ((a : Int) < (j : Int)) := by omega
          have hjad : decide ((j : Int) > (a : Int)) = false := decide_eq_false (by omega)
          go_wp2_with fail
          go_big_region_o
          have S2 : Aside (SB enc w0 blk off dj wr.drew) := SJ.out.drew
          clear SJ
          generalize wr.drew = w2 at S2 ⊢
          go_wp2
          go_roundg (b - (i + 1))
          case measure => omega
          case rel => exact ⟨i + 1, dj, by first | rfl | go_num | (congr 1; omega), by omega, by omega, by omega, hsj, S2, OUT.out (Or.inl (by omega))⟩
    · have HF : Hid (Sort.insertionSort (ltOf cf) d a b = dk) := by show _ = _; unfold Sort.insertionSort; rw [← HO.out, insOuter_stop _ _ _ _ _ hlt]
      have hltz : ¬ ((i : Int) < (b : Int)) := by omega
      go_wp2
      go_end0
      exact ⟨rfl, by rw [HF.out]; exact S1.out⟩
end Go.Proofs.Ytppmjbnhghaffaa
