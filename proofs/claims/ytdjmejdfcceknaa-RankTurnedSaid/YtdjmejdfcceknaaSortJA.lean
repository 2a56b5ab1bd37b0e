/- slices.symMergeCmpFunc: one element ahead. Conditions: as the theorem says. -/
import Derived.Test.YtdjmejdfcceknaaSortJ
namespace Go.Proofs.Ytdjmejdfcceknaa
open Go.Shelf Go.RowKit Go.Lib Go.Sort

set_option maxHeartbeats 16000000 in
set_option maxRecDepth 100000 in
theorem symMergeA_s {α : Type} [Inhabited α] (enc : α → Value) (cf : α → α → Int) (g : Nat) (cb : Array Value) (blk off cap : Nat) (d0 : Array α) (w0 : World) (eg : ∀ args w, (callFunc g args).run Try.prog w = .ok (.enter g args) w) (hcmp : CmpB Try.prog g cb enc cf blk off d0.size w0) (R : Row1 enc w0 blk off d0) (hsz : d0.size < 1000000000) (f a m b : Nat) (d : Array α) (w : World) (IH : ∀ (a m b : Nat) (d : Array α) (w : World), d0.size = d.size → SB enc w0 blk off d w → a < m → m < b → b ≤ d.size → b - a ≤ f →
    Calls Try.prog 133 #[.slice (some ⟨blk, off, none⟩) d.size cap, .int .i64 a, .int .i64 m, .int .i64 b, .func (.func g) #[] cb] w fun e w' => e = .returned (.tuple #[]) ∧ SB enc w0 blk off (symM (ltOf cf) f a m b d) w')
    (hs : d0.size = d.size) (S : SB enc w0 blk off d w) (h1 : a < m) (h2 : m < b) (h3 : b ≤ d.size) (h4 : b - a ≤ f + 1) (c1 : m - a = 1) :
    Calls Try.prog 133 #[.slice (some ⟨blk, off, none⟩) d.size cap, .int .i64 a, .int .i64 m, .int .i64 b, .func (.func g) #[] cb] w fun e w' => e = .returned (.tuple #[]) ∧ SB enc w0 blk off (symM (ltOf cf) (f + 1) a m b d) w' := by
  have mixed : Try.prog.follows .mixedOrders = true := by kernel_rfl
  have hcl0 := R.hO.cells
  simp only [Value.cells] at hcl0
  have hst := R.hO.store Try.prog
  have HC : Aside _ := hcmp
  have S0 : Aside _ := S
  have IH' : Aside _ := IH
  clear S hcmp IH
  have c1z : (m : Int) - (a : Int) = 1 := by omega
  have c1b : ((m : Int) - (a : Int) == 1) = true := beq_iff_eq.2 c1z
  go_enter Try.func133, Try.ntmps133
  go_wp2
  go_loopg [10, 11] (b - m) (fun g1 vi vj wr => ∃ (i j : Nat), vi = .int .i64 i ∧ vj = .int .i64 j ∧ m ≤ i ∧ i ≤ j ∧ j ≤ b ∧ j - i ≤ g1 ∧ Aside (SB enc w0 blk off d wr) ∧ Hid (∃ q, j - i ≤ q ∧ bsr (fun h => (ltOf cf) d[h]! d[a]!) q i j = bsr (fun h => (ltOf cf) d[h]! d[a]!) (b - a) (m) (b)))
  case atStart => exact ⟨m, b, rfl, rfl, Nat.le_refl _, by omega, Nat.le_refl _, Nat.le_refl _, S0, ⟨_, by omega, rfl⟩⟩
  case round =>
    clear S0
    obtain ⟨i, j, rfl, rfl, hlo, hij, hhi, hg1, S1, HB⟩ := hrel
    by_cases hlt : i < j
    · have hltz : (i : Int) < (j : Int) := by omega
      obtain ⟨h, hh⟩ : ∃ h, h = (i + j) / 2 := ⟨_, rfl⟩
      have zh : ((i : Int) + (j : Int)) / 2 = (h : Int) := by omega
      have h5 : i ≤ h := by omega
      have h6 : h < j := by omega
      have HH : Hid (h = (i + j) / 2) := hh
      clear hh
      cases hlv : (ltOf cf) d[h]! d[a]! with
      | true =>
        as_aux_lemma =>
          have HB' : Hid (∃ q, j - (h + 1) ≤ q ∧ bsr (fun h => (ltOf cf) d[h]! d[a]!) q (h + 1) j = bsr (fun h => (ltOf cf) d[h]! d[a]!) (b - a) (m) (b)) := by
            obtain ⟨q, hq, hb⟩ := HB.out
            cases q with
            | zero => omega
            | succ q => exact ⟨q, by omega, by rw [← hb]; (conv => rhs; unfold bsr; rw [if_pos hlt, ← HH.out]); exact (if_pos (by simp [hlv])).symm⟩
          clear HB
          obtain ⟨iN5, hiN5⟩ : ∃ q, q = h := ⟨_, rfl⟩
          obtain ⟨jN5, hjN5⟩ : ∃ q, q = a := ⟨_, rfl⟩
          have ea5 : ((h : Int)).toNat = iN5 := by omega
          have pa5 : (0 : Int) ≤ (h : Int) := by omega
          have ba5 : (h : Int) < (d.size : Int) := by omega
          have ra5 : IntKind.i64.wrap ((h : Int)) = (h : Int) := by rw [IntKind.wrap_i64]; omega
          have ec5 : ((a : Int)).toNat = jN5 := by omega
          have pc5 : (0 : Int) ≤ (a : Int) := by omega
          have bc5 : (a : Int) < (d.size : Int) := by omega
          have rc5 : IntKind.i64.wrap ((a : Int)) = (a : Int) := by rw [IntKind.wrap_i64]; omega
          obtain ⟨x5, hx5⟩ : ∃ x, x = d[h]! := ⟨_, rfl⟩
          obtain ⟨y5, hy5⟩ : ∃ x, x = d[a]! := ⟨_, rfl⟩
          have l5a := S1.out.cl R (by omega) (h) (by omega)
          have l5b := S1.out.cl R (by omega) (a) (by omega)
          rw [← hx5, ← hiN5] at l5a
          rw [← hy5, ← hjN5] at l5b
          have hc5 := S1.out.cmp HC.out (by omega) x5 y5
          have hv5 : cf x5 y5 < 0 := by rw [hx5, hy5]; exact of_decide_eq_true hlv
          have hd5 : decide (cf x5 y5 < 0) = true := decide_eq_true hv5
          clear hx5 hy5 hiN5 hjN5
          go_wp2_with fail
          refine wp_region_ext (by kernel_rfl) (by kernel_rfl) ?_
          repeat (go_big_quiet_step ((first | (go_at_fn g; with_reducible exact qe (hc5 _)))))
          refine wpQuiet_nil ?_
          intro _ hw'
          obtain ⟨gx, hw''⟩ := hw'
          subst hw''
          have S2 : Aside (SB enc w0 blk off d (Go.Proofs.Ytdjmejdfcceknaa.ext wr gx)) := S1.out.ext gx
          clear l5a l5b hc5 S1
          generalize Go.Proofs.Ytdjmejdfcceknaa.ext wr gx = w2 at S2 ⊢
          clear gx
          clear ea5 ec5
          go_wp2
          go_roundg (j - (h + 1))
          case measure => omega
          case rel => exact ⟨h + 1, j, by first | rfl | go_num | (congr 1; omega), rfl, by omega, by omega, by omega, Nat.le_refl _, S2, HB'⟩
      | false =>
        as_aux_lemma =>
          have HB' : Hid (∃ q, h - i ≤ q ∧ bsr (fun h => (ltOf cf) d[h]! d[a]!) q i h = bsr (fun h => (ltOf cf) d[h]! d[a]!) (b - a) (m) (b)) := by
            obtain ⟨q, hq, hb⟩ := HB.out
            cases q with
            | zero => omega
            | succ q => exact ⟨q, by omega, by rw [← hb]; (conv => rhs; unfold bsr; rw [if_pos hlt, ← HH.out]); exact (if_neg (by simp [hlv])).symm⟩
          clear HB
          obtain ⟨iN6, hiN6⟩ : ∃ q, q = h := ⟨_, rfl⟩
          obtain ⟨jN6, hjN6⟩ : ∃ q, q = a := ⟨_, rfl⟩
          have ea6 : ((h : Int)).toNat = iN6 := by omega
          have pa6 : (0 : Int) ≤ (h : Int) := by omega
          have ba6 : (h : Int) < (d.size : Int) := by omega
          have ra6 : IntKind.i64.wrap ((h : Int)) = (h : Int) := by rw [IntKind.wrap_i64]; omega
          have ec6 : ((a : Int)).toNat = jN6 := by omega
          have pc6 : (0 : Int) ≤ (a : Int) := by omega
          have bc6 : (a : Int) < (d.size : Int) := by omega
          have rc6 : IntKind.i64.wrap ((a : Int)) = (a : Int) := by rw [IntKind.wrap_i64]; omega
          obtain ⟨x6, hx6⟩ : ∃ x, x = d[h]! := ⟨_, rfl⟩
          obtain ⟨y6, hy6⟩ : ∃ x, x = d[a]! := ⟨_, rfl⟩
          have l6a := S1.out.cl R (by omega) (h) (by omega)
          have l6b := S1.out.cl R (by omega) (a) (by omega)
          rw [← hx6, ← hiN6] at l6a
          rw [← hy6, ← hjN6] at l6b
          have hc6 := S1.out.cmp HC.out (by omega) x6 y6
          have hv6 : ¬ cf x6 y6 < 0 := by rw [hx6, hy6]; exact of_decide_eq_false hlv
          have hd6 : decide (cf x6 y6 < 0) = false := decide_eq_false hv6
          clear hx6 hy6 hiN6 hjN6
          go_wp2_with fail
          refine wp_region_ext (by kernel_rfl) (by kernel_rfl) ?_
          repeat (go_big_quiet_step ((first | (go_at_fn g; with_reducible exact qe (hc6 _)))))
          refine wpQuiet_nil ?_
          intro _ hw'
          obtain ⟨gx, hw''⟩ := hw'
          subst hw''
          have S2 : Aside (SB enc w0 blk off d (Go.Proofs.Ytdjmejdfcceknaa.ext wr gx)) := S1.out.ext gx
          clear l6a l6b hc6 S1
          generalize Go.Proofs.Ytdjmejdfcceknaa.ext wr gx = w2 at S2 ⊢
          clear gx
          clear ea6 ec6
          go_wp2
          go_roundg (h - i)
          case measure => omega
          case rel => exact ⟨i, h, rfl, by first | rfl | go_num | (congr 1; omega), by omega, by omega, by omega, Nat.le_refl _, S2, HB'⟩
    · obtain rfl : i = j := by omega
      have HR : Hid (bsr (fun h => (ltOf cf) d[h]! d[a]!) (b - a) (m) (b) = i) := by
        obtain ⟨q, hq, hb⟩ := HB.out
        show _ = _
        rw [← hb]; cases q with
        | zero => rfl
        | succ q => unfold bsr; rw [if_neg (by omega)]
      clear HB
      go_wp2
      go_loopg [13] (i - 1 - a) (fun g1 vk wr => ∃ (k : Nat) (dk : Array α), vk = .int .i64 k ∧ a ≤ k ∧ k ≤ i - 1 ∧ i - 1 - k ≤ g1 ∧ dk.size = d.size ∧ Aside (SB enc w0 blk off dk wr) ∧ Hid (upA (i - 1 - k) k dk = upA (i - 1 - a) a d))
      case atStart => exact ⟨a, d, rfl, Nat.le_refl _, by omega, Nat.le_refl _, rfl, S1, rfl⟩
      case round =>
        clear S1
        obtain ⟨k, dk, rfl, hak, hki, hg1, hsk, S1, HO⟩ := hrel
        by_cases hkl : k < i - 1
        · have hklz : (k : Int) < (i : Int) - 1 := by omega
          obtain ⟨iN7, hiN7⟩ : ∃ q, q = k := ⟨_, rfl⟩
          obtain ⟨jN7, hjN7⟩ : ∃ q, q = k + 1 := ⟨_, rfl⟩
          have ea7 : ((k : Int)).toNat = iN7 := by omega
          have pa7 : (0 : Int) ≤ (k : Int) := by omega
          have ba7 : (k : Int) < (d.size : Int) := by omega
          have ra7 : IntKind.i64.wrap ((k : Int)) = (k : Int) := by rw [IntKind.wrap_i64]; omega
          have ec7 : ((k : Int) + 1).toNat = jN7 := by omega
          have pc7 : (0 : Int) ≤ (k : Int) + 1 := by omega
          have bc7 : (k : Int) + 1 < (d.size : Int) := by omega
          have rc7 : IntKind.i64.wrap ((k : Int) + 1) = (k : Int) + 1 := by rw [IntKind.wrap_i64]; omega
          obtain ⟨x7, hx7⟩ : ∃ x, x = dk[k]! := ⟨_, rfl⟩
          obtain ⟨y7, hy7⟩ : ∃ x, x = dk[k + 1]! := ⟨_, rfl⟩
          have S3 : Aside (SB enc w0 blk off (swp dk (k) (k + 1)) ((wr.setCell ⟨blk, off + iN7, none⟩ (enc y7)).setCell ⟨blk, off + jN7, none⟩ (enc x7)).drew) := by rw [hiN7, hjN7, hx7, hy7]; exact S1.out.swapped R (k) (k + 1) (by omega) (by omega)
          have c7a := S1.out.c1 R (by omega) (k) (by omega)
          have c7b := S1.out.c1 R (by omega) (k + 1) (by omega)
          have f7a := S1.out.f1 R (by omega) (k) (by omega)
          have f7b := S1.out.f1 R (by omega) (k + 1) (by omega)
          obtain ⟨u7, c7c⟩ := S1.out.c2 R (by omega) (k) (k + 1) (by omega) (by omega) (enc y7)
          rw [← hjN7, ← hiN7] at c7c
          rw [← hx7, ← hiN7] at c7a
          rw [← hy7, ← hjN7] at c7b
          rw [← hiN7] at f7a
          rw [← hjN7] at f7b
          clear S1 hx7 hy7 hiN7 hjN7
          go_wp2_with fail
          go_big_region_o
          clear c7a c7b c7c f7a f7b
          generalize ((wr.setCell ⟨blk, off + iN7, none⟩ (enc y7)).setCell ⟨blk, off + jN7, none⟩ (enc x7)).drew = w3 at S3 ⊢
          clear ea7 ec7
          go_wp2
          go_roundg (i - 1 - (k + 1))
          case measure => omega
          case rel => exact ⟨k + 1, swp dk k (k + 1), by first | rfl | go_num | (congr 1; omega), by omega, by omega, Nat.le_refl _, by rw [size_swp]; exact hsk, S3, (show Hid _ from by rw [← HO.out, show i - 1 - k = (i - 1 - (k + 1)) + 1 by omega]; exact rfl)⟩
        · have hklz : ¬ ((k : Int) < (i : Int) - 1) := by omega
          have HF : Hid (symM (ltOf cf) (f + 1) a m b d = dk) := by show _ = _; unfold symM; rw [if_pos c1, HR.out, ← HO.out, show i - 1 - k = 0 by omega]; rfl
          go_wp2
          ((try simp only [Exit.inBlock, Exit.then]); first | refine bodyPost_end (results_none rfl _ _ _) rfl ?_ | refine bodyPost_ret (results_none rfl _ _ _) rfl ?_)
          exact ⟨rfl, by rw [HF.out]; exact S1.out⟩
end Go.Proofs.Ytdjmejdfcceknaa
