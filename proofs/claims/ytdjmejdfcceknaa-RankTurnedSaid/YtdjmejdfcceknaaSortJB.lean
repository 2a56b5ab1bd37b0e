/- slices.symMergeCmpFunc: one element behind. Conditions: as the theorem says. -/
import Derived.Test.YtdjmejdfcceknaaSortJ
namespace Go.Proofs.Ytdjmejdfcceknaa
open Go.Shelf Go.RowKit Go.Lib Go.Sort

set_option maxHeartbeats 16000000 in
set_option maxRecDepth 100000 in
theorem symMergeB_s {α : Type} [Inhabited α] (enc : α → Value) (cf : α → α → Int) (g : Nat) (cb : Array Value) (blk off cap : Nat) (d0 : Array α) (w0 : World) (eg : ∀ args w, (callFunc g args).run Try.prog w = .ok (.enter g args) w) (hcmp : CmpB Try.prog g cb enc cf blk off d0.size w0) (R : Row1 enc w0 blk off d0) (hsz : d0.size < 1000000000) (f a m b : Nat) (d : Array α) (w : World) (IH : ∀ (a m b : Nat) (d : Array α) (w : World), d0.size = d.size → SB enc w0 blk off d w → a < m → m < b → b ≤ d.size → b - a ≤ f →
    Calls Try.prog 133 #[.slice (some ⟨blk, off, none⟩) d.size cap, .int .i64 a, .int .i64 m, .int .i64 b, .func (.func g) #[] cb] w fun e w' => e = .returned (.tuple #[]) ∧ SB enc w0 blk off (symM (ltOf cf) f a m b d) w')
    (hs : d0.size = d.size) (S : SB enc w0 blk off d w) (h1 : a < m) (h2 : m < b) (h3 : b ≤ d.size) (h4 : b - a ≤ f + 1) (c1 : ¬ m - a = 1) (c2 : b - m = 1) :
    Calls Try.prog 133 #[.slice (some ⟨blk, off, none⟩) d.size cap, .int .i64 a, .int .i64 m, .int .i64 b, .func (.func g) #[] cb] w fun e w' => e = .returned (.tuple #[]) ∧ SB enc w0 blk off (symM (ltOf cf) (f + 1) a m b d) w' := by
  have mixed : Try.prog.follows .mixedOrders = true := by kernel_rfl
  have hcl0 := R.hO.cells
  simp only [Value.cells] at hcl0
  have hst := R.hO.store Try.prog
  have HC : Aside _ := hcmp
  have S0 : Aside _ := S
  have IH' : Aside _ := IH
  clear S hcmp IH
  have c1z : ¬ ((m : Int) - (a : Int) = 1) := by omega
  have c1b : ((m : Int) - (a : Int) == 1) = false := beq_eq_false_iff_ne.2 c1z
  have c2z : (b : Int) - (m : Int) = 1 := by omega
  have c2b : ((b : Int) - (m : Int) == 1) = true := beq_iff_eq.2 c2z
  go_enter Try.func133, Try.ntmps133
  go_wp2
  go_loopg [14, 15] (m - a) (fun g1 vi vj wr => ∃ (i j : Nat), vi = .int .i64 i ∧ vj = .int .i64 j ∧ a ≤ i ∧ i ≤ j ∧ j ≤ m ∧ j - i ≤ g1 ∧ Aside (SB enc w0 blk off d wr) ∧ Hid (∃ q, j - i ≤ q ∧ bsr (fun h => !(ltOf cf) d[m]! d[h]!) q i j = bsr (fun h => !(ltOf cf) d[m]! d[h]!) (b - a) (a) (m)))
  case atStart => exact ⟨a, m, rfl, rfl, Nat.le_refl _, by omega, Nat.le_refl _, Nat.le_refl _, S0, ⟨_, by omega, rfl⟩⟩
  case round =>
    clear S0
    obtain ⟨i, j, rfl, rfl, hlo, hij, hhi, hg1, S1, HB⟩ := hrel
    by_cases hlt : i < j
    · have hltz : (i : Int) < (j : Int) := by omega
      obtain ⟨h, hh⟩ : ∃ h, h = (i + j) / 2 := ⟨_, rfl⟩
      have zh : ((i : Int) + (j : Int)) / 2 = (h : Int) := by omega
      have h5 : i ≤ h := by omega
      have h6 : h < j := by omega
      have HH : Hid (h = (i + j) / 2) := hh
      clear hh
      cases hlv : (ltOf cf) d[m]! d[h]! with
      | true =>
        as_aux_lemma =>
          have HB' : Hid (∃ q, h - i ≤ q ∧ bsr (fun h => !(ltOf cf) d[m]! d[h]!) q i h = bsr (fun h => !(ltOf cf) d[m]! d[h]!) (b - a) (a) (m)) := by
            obtain ⟨q, hq, hb⟩ := HB.out
            cases q with
            | zero => omega
            | succ q => exact ⟨q, by omega, by rw [← hb]; (conv => rhs; unfold bsr; rw [if_pos hlt, ← HH.out]); exact (if_neg (by simp [hlv])).symm⟩
          clear HB
          obtain ⟨iN8, hiN8⟩ : ∃ q, q = m := ⟨_, rfl⟩
          obtain ⟨jN8, hjN8⟩ : ∃ q, q = h := ⟨_, rfl⟩
          have ea8 : ((m : Int)).toNat = iN8 := by omega
          have pa8 : (0 : Int) ≤ (m : Int) := by omega
          have ba8 : (m : Int) < (d.size : Int) := by omega
          have ra8 : IntKind.i64.wrap ((m : Int)) = (m : Int) := by rw [IntKind.wrap_i64]; omega
          have ec8 : ((h : Int)).toNat = jN8 := by omega
          have pc8 : (0 : Int) ≤ (h : Int) := by omega
          have bc8 : (h : Int) < (d.size : Int) := by omega
          have rc8 : IntKind.i64.wrap ((h : Int)) = (h : Int) := by rw [IntKind.wrap_i64]; omega
          obtain ⟨x8, hx8⟩ : ∃ x, x = d[m]! := ⟨_, rfl⟩
          obtain ⟨y8, hy8⟩ : ∃ x, x = d[h]! := ⟨_, rfl⟩
          have l8a := S1.out.cl R (by omega) (m) (by omega)
          have l8b := S1.out.cl R (by omega) (h) (by omega)
          rw [← hx8, ← hiN8] at l8a
          rw [← hy8, ← hjN8] at l8b
          have hc8 := S1.out.cmp HC.out (by omega) x8 y8
          have hv8 : cf x8 y8 < 0 := by rw [hx8, hy8]; exact of_decide_eq_true hlv
          have hd8 : decide (cf x8 y8 < 0) = true := decide_eq_true hv8
          clear hx8 hy8 hiN8 hjN8
          go_wp2_with fail
          refine wp_region_ext (by kernel_rfl) (by kernel_rfl) ?_
          repeat (go_big_quiet_step ((first | (go_at_fn g; with_reducible exact qe (hc8 _)))))
          refine wpQuiet_nil ?_
          intro _ hw'
          obtain ⟨gx, hw''⟩ := hw'
          subst hw''
          have S2 : Aside (SB enc w0 blk off d (Go.Proofs.Ytdjmejdfcceknaa.ext wr gx)) := S1.out.ext gx
          clear l8a l8b hc8 S1
          generalize Go.Proofs.Ytdjmejdfcceknaa.ext wr gx = w2 at S2 ⊢
          clear gx
          clear ea8 ec8
          go_wp2
          go_roundg (h - i)
          case measure => omega
          case rel => exact ⟨i, h, rfl, by first | rfl | go_num | (congr 1; omega), by omega, by omega, by omega, Nat.le_refl _, S2, HB'⟩
      | false =>
        as_aux_lemma =>
          have HB' : Hid (∃ q, j - (h + 1) ≤ q ∧ bsr (fun h => !(ltOf cf) d[m]! d[h]!) q (h + 1) j = bsr (fun h => !(ltOf cf) d[m]! d[h]!) (b - a) (a) (m)) := by
            obtain ⟨q, hq, hb⟩ := HB.out
            cases q with
            | zero => omega
            | succ q => exact ⟨q, by omega, by rw [← hb]; (conv => rhs; unfold bsr; rw [if_pos hlt, ← HH.out]); exact (if_pos (by simp [hlv])).symm⟩
          clear HB
          obtain ⟨iN9, hiN9⟩ : ∃ q, q = m := ⟨_, rfl⟩
          obtain ⟨jN9, hjN9⟩ : ∃ q, q = h := ⟨_, rfl⟩
          have ea9 : ((m : Int)).toNat = iN9 := by omega
          have pa9 : (0 : Int) ≤ (m : Int) := by omega
          have ba9 : (m : Int) < (d.size : Int) := by omega
          have ra9 : IntKind.i64.wrap ((m : Int)) = (m : Int) := by rw [IntKind.wrap_i64]; omega
          have ec9 : ((h : Int)).toNat = jN9 := by omega
          have pc9 : (0 : Int) ≤ (h : Int) := by omega
          have bc9 : (h : Int) < (d.size : Int) := by omega
          have rc9 : IntKind.i64.wrap ((h : Int)) = (h : Int) := by rw [IntKind.wrap_i64]; omega
          obtain ⟨x9, hx9⟩ : ∃ x, x = d[m]! := ⟨_, rfl⟩
          obtain ⟨y9, hy9⟩ : ∃ x, x = d[h]! := ⟨_, rfl⟩
          have l9a := S1.out.cl R (by omega) (m) (by omega)
          have l9b := S1.out.cl R (by omega) (h) (by omega)
          rw [← hx9, ← hiN9] at l9a
          rw [← hy9, ← hjN9] at l9b
          have hc9 := S1.out.cmp HC.out (by omega) x9 y9
          have hv9 : ¬ cf x9 y9 < 0 := by rw [hx9, hy9]; exact of_decide_eq_false hlv
          have hd9 : decide (cf x9 y9 < 0) = false := decide_eq_false hv9
          clear hx9 hy9 hiN9 hjN9
          go_wp2_with fail
          refine wp_region_ext (by kernel_rfl) (by kernel_rfl) ?_
          repeat (go_big_quiet_step ((first | (go_at_fn g; with_reducible exact qe (hc9 _)))))
          refine wpQuiet_nil ?_
          intro _ hw'
          obtain ⟨gx, hw''⟩ := hw'
          subst hw''
          have S2 : Aside (SB enc w0 blk off d (Go.Proofs.Ytdjmejdfcceknaa.ext wr gx)) := S1.out.ext gx
          clear l9a l9b hc9 S1
          generalize Go.Proofs.Ytdjmejdfcceknaa.ext wr gx = w2 at S2 ⊢
          clear gx
          clear ea9 ec9
          go_wp2
          go_roundg (j - (h + 1))
          case measure => omega
          case rel => exact ⟨h + 1, j, by first | rfl | go_num | (congr 1; omega), rfl, by omega, by omega, by omega, Nat.le_refl _, S2, HB'⟩
    · obtain rfl : i = j := by omega
      have HR : Hid (bsr (fun h => !(ltOf cf) d[m]! d[h]!) (b - a) (a) (m) = i) := by
        obtain ⟨q, hq, hb⟩ := HB.out
        show _ = _
        rw [← hb]; cases q with
        | zero => rfl
        | succ q => unfold bsr; rw [if_neg (by omega)]
      clear HB
      go_wp2
      go_loopg [17] (m - i) (fun g1 vk wr => ∃ (k : Nat) (dk : Array α), vk = .int .i64 k ∧ i ≤ k ∧ k ≤ m ∧ k - i ≤ g1 ∧ dk.size = d.size ∧ Aside (SB enc w0 blk off dk wr) ∧ Hid (downA (k - i) k dk = downA (m - i) m d))
      case atStart => exact ⟨m, d, rfl, by omega, Nat.le_refl _, Nat.le_refl _, rfl, S1, rfl⟩
      case round =>
        clear S1
        obtain ⟨k, dk, rfl, hik, hkm, hg1, hsk, S1, HO⟩ := hrel
        by_cases hkl : i < k
        · have hklz : (i : Int) < (k : Int) := by omega
          obtain ⟨kp, hkp⟩ : ∃ q, q + 1 = k := ⟨k - 1, by omega⟩
          have zkp : (k : Int) = (kp : Int) + 1 := by omega
          have hklz' : (i : Int) < (kp : Int) + 1 := by omega
          obtain ⟨iN10, hiN10⟩ : ∃ q, q = k := ⟨_, rfl⟩
          obtain ⟨jN10, hjN10⟩ : ∃ q, q = k - 1 := ⟨_, rfl⟩
          have ea10 : ((kp : Int) + 1).toNat = iN10 := by omega
          have pa10 : (0 : Int) ≤ (kp : Int) + 1 := by omega
          have ba10 : (kp : Int) + 1 < (d.size : Int) := by omega
          have ra10 : IntKind.i64.wrap ((kp : Int) + 1) = (kp : Int) + 1 := by rw [IntKind.wrap_i64]; omega
          have ec10 : ((kp : Int)).toNat = jN10 := by omega
          have pc10 : (0 : Int) ≤ (kp : Int) := by omega
          have bc10 : (kp : Int) < (d.size : Int) := by omega
          have rc10 : IntKind.i64.wrap ((kp : Int)) = (kp : Int) := by rw [IntKind.wrap_i64]; omega
          obtain ⟨x10, hx10⟩ : ∃ x, x = dk[k]! := ⟨_, rfl⟩
          obtain ⟨y10, hy10⟩ : ∃ x, x = dk[k - 1]! := ⟨_, rfl⟩
          have S3 : Aside (SB enc w0 blk off (swp dk (k) (k - 1)) ((wr.setCell ⟨blk, off + iN10, none⟩ (enc y10)).setCell ⟨blk, off + jN10, none⟩ (enc x10)).drew) := by rw [hiN10, hjN10, hx10, hy10]; exact S1.out.swapped R (k) (k - 1) (by omega) (by omega)
          have c10a := S1.out.c1 R (by omega) (k) (by omega)
          have c10b := S1.out.c1 R (by omega) (k - 1) (by omega)
          have f10a := S1.out.f1 R (by omega) (k) (by omega)
          have f10b := S1.out.f1 R (by omega) (k - 1) (by omega)
          obtain ⟨u10, c10c⟩ := S1.out.c2 R (by omega) (k) (k - 1) (by omega) (by omega) (enc y10)
          rw [← hjN10, ← hiN10] at c10c
          rw [← hx10, ← hiN10] at c10a
          rw [← hy10, ← hjN10] at c10b
          rw [← hiN10] at f10a
          rw [← hjN10] at f10b
          clear S1 hx10 hy10 hiN10 hjN10
          go_wp2_with fail
          go_big_region_o
          clear c10a c10b c10c f10a f10b
          generalize ((wr.setCell ⟨blk, off + iN10, none⟩ (enc y10)).setCell ⟨blk, off + jN10, none⟩ (enc x10)).drew = w3 at S3 ⊢
          clear ea10 ec10
          go_wp2
          go_roundg (k - 1 - i)
          case measure => omega
          case rel => exact ⟨k - 1, swp dk k (k - 1), by first | rfl | go_num | (congr 1; omega), by omega, by omega, Nat.le_refl _, by rw [size_swp]; exact hsk, S3, (show Hid _ from by rw [← HO.out, show k - i = (k - 1 - i) + 1 by omega]; exact rfl)⟩
        · have hklz : ¬ ((i : Int) < (k : Int)) := by omega
          have HF : Hid (symM (ltOf cf) (f + 1) a m b d = dk) := by show _ = _; unfold symM; rw [if_neg c1, if_pos c2, HR.out, ← HO.out, show k - i = 0 by omega]; rfl
          go_wp2
          ((try simp only [Exit.inBlock, Exit.then]); first | refine bodyPost_end (results_none rfl _ _ _) rfl ?_ | refine bodyPost_ret (results_none rfl _ _ _) rfl ?_)
          exact ⟨rfl, by rw [HF.out]; exact S1.out⟩
end Go.Proofs.Ytdjmejdfcceknaa
