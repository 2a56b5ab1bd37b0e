/- Texts put together: SortJ, SortJA, SortJB, SortJC, SortJD, SortK. No condition. -/
import Derived.Test.YtppmjbnhghaffaaSortI
import Derived.WalkSpells
import Derived.WalkLawsBesides
import Derived.Deep.DeepCutAuto
/- slices.SortStableFunc and its fellows, at ints: what the row holds behind each. Conditions: as each theorem says (an order that lays blocks at most). -/
namespace Go.Proofs.Ytppmjbnhghaffaa
open Go.Shelf Go.RowKit Go.Lib Go.Sort

theorem size_rotA {α : Type} [Inhabited α] (m : Nat) : ∀ (f i j : Nat) (d : Array α), (rotA m f i j d).size = d.size
  | 0, _, _, _ => rfl
  | f + 1, i, j, d => by
    unfold rotA; split
    · rw [size_swpR]
    · split
      · rw [size_rotA m f, size_swpR]
      · rw [size_rotA m f, size_swpR]
theorem size_upA {α : Type} [Inhabited α] : ∀ (n k : Nat) (d : Array α), (upA n k d).size = d.size
  | 0, _, _ => rfl
  | n + 1, k, d => by unfold upA; rw [size_upA n, size_swp]
theorem size_downA {α : Type} [Inhabited α] : ∀ (n k : Nat) (d : Array α), (downA n k d).size = d.size
  | 0, _, _ => rfl
  | n + 1, k, d => by unfold downA; rw [size_downA n, size_swp]
theorem size_symM {α : Type} [Inhabited α] (lt : α → α → Bool) : ∀ (f a m b : Nat) (d : Array α), (symM lt f a m b d).size = d.size
  | 0, _, _, _, _ => rfl
  | f + 1, a, m, b, d => by
    unfold symM; split
    · rw [size_upA]
    · split
      · rw [size_downA]
      · simp only
        repeat' split
        all_goals simp only [size_symM lt f, size_rotA]
theorem symM_gen {α : Type} [Inhabited α] (lt : α → α → Bool) (f a m b : Nat) (d : Array α) (mid s e : Nat) (h1 : ¬ m - a = 1) (h2 : ¬ b - m = 1) (hm : mid = (a + b) / 2) (hs : symSt lt d a m b = s) (he : e = mid + m - s) :
    symM lt (f + 1) a m b d = if mid < e ∧ e < b then symM lt f mid e b (if a < s ∧ s < mid then symM lt f a s mid (if s < m ∧ m < e then rotA m (e - s) (m - s) (e - m) d else d) else (if s < m ∧ m < e then rotA m (e - s) (m - s) (e - m) d else d))
      else (if a < s ∧ s < mid then symM lt f a s mid (if s < m ∧ m < e then rotA m (e - s) (m - s) (e - m) d else d) else (if s < m ∧ m < e then rotA m (e - s) (m - s) (e - m) d else d)) := by
  conv => lhs; unfold symM
  subst he
  rw [if_neg h1, if_neg h2, hs, ← hm]

end Go.Proofs.Ytppmjbnhghaffaa
/- slices.symMergeCmpFunc: one element ahead. Conditions: as the theorem says. -/
namespace Go.Proofs.Ytppmjbnhghaffaa
open Go.Shelf Go.RowKit Go.Lib Go.Sort

set_option maxHeartbeats 16000000 in
set_option maxRecDepth 100000 in
theorem symMergeA_s {α : Type} [Inhabited α] (enc : α → Value) (cf : α → α → Int) (g : Nat) (cb : Array Value) (blk off cap : Nat) (d0 : Array α) (w0 : World) (eg : ∀ args w, (callFunc g args).run Try.prog w = .ok (.enter g args) w) (hcmp : CmpB Try.prog g cb enc cf blk off d0.size w0) (R : Row1 enc w0 blk off d0) (hsz : d0.size < 1000000000) (f a m b : Nat) (d : Array α) (w : World) (IH : ∀ (a m b : Nat) (d : Array α) (w : World), d0.size = d.size → SB enc w0 blk off d w → a < m → m < b → b ≤ d.size → b - a ≤ f →
    Calls Try.prog 201 #[.slice (some ⟨blk, off, none⟩) d.size cap, .int .i64 a, .int .i64 m, .int .i64 b, .func (.func g) #[] cb] w fun e w' => e = .returned (.tuple #[]) ∧ SB enc w0 blk off (symM (ltOf cf) f a m b d) w')
    (hs : d0.size = d.size) (S : SB enc w0 blk off d w) (h1 : a < m) (h2 : m < b) (h3 : b ≤ d.size) (h4 : b - a ≤ f + 1) (c1 : m - a = 1) :
    Calls Try.prog 201 #[.slice (some ⟨blk, off, none⟩) d.size cap, .int .i64 a, .int .i64 m, .int .i64 b, .func (.func g) #[] cb] w fun e w' => e = .returned (.tuple #[]) ∧ SB enc w0 blk off (symM (ltOf cf) (f + 1) a m b d) w' := by
  have mixed : Try.prog.follows .mixedOrders = true := by kernel_rfl
  have hcl0 := R.hO.cells
  simp only [Value.cells] at hcl0
  have hst := R.hO.store Try.prog
  have HC : Aside _ := hcmp
  have S0 : Aside _ := S
  have IH' : Aside _ := IH
  clear S hcmp IH
  have c1z : (m : Int) - (a : Int) = 1 := by omega
  have c1b : ((m : Int) - (a : Int) == 1) = true := beq_iff_eq.2 c1z
  go_enter Try.func201, Try.ntmps201
  go_wp2
  go_loopg [10, 11] (b - m) (fun g1 vi vj wr => ∃ (i j : Nat), vi = .int .i64 i ∧ vj = .int .i64 j ∧ m ≤ i ∧ i ≤ j ∧ j ≤ b ∧ j - i ≤ g1 ∧ Aside (SB enc w0 blk off d wr) ∧ Hid (∃ q, j - i ≤ q ∧ bsr (fun h => (ltOf cf) d[h]! d[a]!) q i j = bsr (fun h => (ltOf cf) d[h]! d[a]!) (b - a) (m) (b)))
  case atStart => exact ⟨m, b, rfl, rfl, Nat.le_refl _, by omega, Nat.le_refl _, Nat.le_refl _, S0, ⟨_, by omega, rfl⟩⟩
  case round =>
    clear S0
    obtain ⟨i, j, rfl, rfl, hlo, hij, hhi, hg1, S1, HB⟩ := hrel
    by_cases hlt : i < j
    · have hltz : (i : Int) < (j : Int) := by omega
      obtain ⟨h, hh⟩ : ∃ h, h = (i + j) / 2 := ⟨_, rfl⟩
      have zh : ((i : Int) + (j : Int)) / 2 = (h : Int) := by omega
      have h5 : i ≤ h := by omega
      have h6 : h < j := by omega
      have HH : Hid (h = (i + j) / 2) := hh
      clear hh
      cases hlv : (ltOf cf) d[h]! d[a]! with
      | true =>
        as_aux_lemma =>
          have HB' : Hid (∃ q, j - (h + 1) ≤ q ∧ bsr (fun h => (ltOf cf) d[h]! d[a]!) q (h + 1) j = bsr (fun h => (ltOf cf) d[h]! d[a]!) (b - a) (m) (b)) := by
            obtain ⟨q, hq, hb⟩ := HB.out
            cases q with
            | zero => omega
            | succ q => exact ⟨q, by omega, by rw [← hb]; (conv => rhs; unfold bsr; rw [if_pos hlt, ← HH.out]); exact (if_pos (by simp [hlv])).symm⟩
          clear HB
          obtain ⟨iN5, hiN5⟩ : ∃ q, q = h := ⟨_, rfl⟩
          obtain ⟨jN5, hjN5⟩ : ∃ q, q = a := ⟨_, rfl⟩
          have ea5 : ((h : Int)).toNat = iN5 := by omega
          have pa5 : (0 : Int) ≤ (h : Int) := by omega
          have ba5 : (h : Int) < (d.size : Int) := by omega
          have ra5 : IntKind.i64.wrap ((h : Int)) = (h : Int) := by rw [IntKind.wrap_i64]; omega
          have ec5 : ((a : Int)).toNat = jN5 := by omega
          have pc5 : (0 : Int) ≤ (a : Int) := by omega
          have bc5 : (a : Int) < (d.size : Int) := by omega
          have rc5 : IntKind.i64.wrap ((a : Int)) = (a : Int) := by rw [IntKind.wrap_i64]; omega
          obtain ⟨x5, hx5⟩ : ∃ x, x = d[h]! := ⟨_, rfl⟩
          obtain ⟨y5, hy5⟩ : ∃ x, x = d[a]! := ⟨_, rfl⟩
          have l5a := S1.out.cl R (by omega) (h) (by omega)
          have l5b := S1.out.cl R (by omega) (a) (by omega)
          rw [← hx5, ← hiN5] at l5a
          rw [← hy5, ← hjN5] at l5b
          have hc5 := S1.out.cmp HC.out (by omega) x5 y5
          have hv5 : cf x5 y5 < 0 := by rw [hx5, hy5]; exact of_decide_eq_true hlv
          have hd5 : decide (cf x5 y5 < 0) = true := decide_eq_true hv5
          clear hx5 hy5 hiN5 hjN5
          go_wp2_with fail
          refine wp_region_ext (by kernel_rfl) (by kernel_rfl) ?_
          repeat (go_big_quiet_step ((first | (go_at_fn g; with_reducible exact qe (hc5 _)))))
          refine wpQuiet_nil ?_
          intro _ hw'
          obtain ⟨gx, hw''⟩ := hw'
          subst hw''
          have S2 : Aside (SB enc w0 blk off d (Go.Proofs.Ytppmjbnhghaffaa.ext wr gx)) := S1.out.ext gx
          clear l5a l5b hc5 S1
          generalize Go.Proofs.Ytppmjbnhghaffaa.ext wr gx = w2 at S2 ⊢
          clear gx
          clear ea5 ec5
          go_wp2
          go_roundg (j - (h + 1))
          case measure => omega
          case rel => exact ⟨h + 1, j, by first | rfl | go_num | (congr 1; omega), rfl, by omega, by omega, by omega, Nat.le_refl _, S2, HB'⟩
      | false =>
        as_aux_lemma =>
          have HB' : Hid (∃ q, h - i ≤ q ∧ bsr (fun h => (ltOf cf) d[h]! d[a]!) q i h = bsr (fun h => (ltOf cf) d[h]! d[a]!) (b - a) (m) (b)) := by
            obtain ⟨q, hq, hb⟩ := HB.out
            cases q with
            | zero => omega
            | succ q => exact ⟨q, by omega, by rw [← hb]; (conv => rhs; unfold bsr; rw [if_pos hlt, ← HH.out]); exact (if_neg (by simp [hlv])).symm⟩
          clear HB
          obtain ⟨iN6, hiN6⟩ : ∃ q, q = h := ⟨_, rfl⟩
          obtain ⟨jN6, hjN6⟩ : ∃ q, q = a := ⟨_, rfl⟩
          have ea6 : ((h : Int)).toNat = iN6 := by omega
          have pa6 : (0 : Int) ≤ (h : Int) := by omega
          have ba6 : (h : Int) < (d.size : Int) := by omega
          have ra6 : IntKind.i64.wrap ((h : Int)) = (h : Int) := by rw [IntKind.wrap_i64]; omega
          have ec6 : ((a : Int)).toNat = jN6 := by omega
          have pc6 : (0 : Int) ≤ (a : Int) := by omega
          have bc6 : (a : Int) < (d.size : Int) := by omega
          have rc6 : IntKind.i64.wrap ((a : Int)) = (a : Int) := by rw [IntKind.wrap_i64]; omega
          obtain ⟨x6, hx6⟩ : ∃ x, x = d[h]! := ⟨_, rfl⟩
          obtain ⟨y6, hy6⟩ : ∃ x, x = d[a]! := ⟨_, rfl⟩
          have l6a := S1.out.cl R (by omega) (h) (by omega)
          have l6b := S1.out.cl R (by omega) (a) (by omega)
          rw [← hx6, ← hiN6] at l6a
          rw [← hy6, ← hjN6] at l6b
          have hc6 := S1.out.cmp HC.out (by omega) x6 y6
          have hv6 : ¬ cf x6 y6 < 0 := by rw [hx6, hy6]; exact of_decide_eq_false hlv
          have hd6 : decide (cf x6 y6 < 0) = false := decide_eq_false hv6
          clear hx6 hy6 hiN6 hjN6
          go_wp2_with fail
          refine wp_region_ext (by kernel_rfl) (by kernel_rfl) ?_
          repeat (go_big_quiet_step ((first | (go_at_fn g; with_reducible exact qe (hc6 _)))))
          refine wpQuiet_nil ?_
          intro _ hw'
          obtain ⟨gx, hw''⟩ := hw'
          subst hw''
          have S2 : Aside (SB enc w0 blk off d (Go.Proofs.Ytppmjbnhghaffaa.ext wr gx)) := S1.out.ext gx
          clear l6a l6b hc6 S1
          generalize Go.Proofs.Ytppmjbnhghaffaa.ext wr gx = w2 at S2 ⊢
          clear gx
          clear ea6 ec6
          go_wp2
          go_roundg (h - i)
          case measure => omega
          case rel => exact ⟨i, h, rfl, by first | rfl | go_num | (congr 1; omega), by omega, by omega, by omega, Nat.le_refl _, S2, HB'⟩
    · obtain rfl : i = j := by omega
      have HR : Hid (bsr (fun h => (ltOf cf) d[h]! d[a]!) (b - a) (m) (b) = i) := by
        obtain ⟨q, hq, hb⟩ := HB.out
        show _ = _
        rw [← hb]; cases q with
        | zero => rfl
        | succ q => unfold bsr; rw [if_neg (by omega)]
      clear HB
      go_wp2
      go_loopg [13] (i - 1 - a) (fun g1 vk wr => ∃ (k : Nat) (dk : Array α), vk = .int .i64 k ∧ a ≤ k ∧ k ≤ i - 1 ∧ i - 1 - k ≤ g1 ∧ dk.size = d.size ∧ Aside (SB enc w0 blk off dk wr) ∧ Hid (upA (i - 1 - k) k dk = upA (i - 1 - a) a d))
      case atStart => exact ⟨a, d, rfl, Nat.le_refl _, by omega, Nat.le_refl _, rfl, S1, rfl⟩
      case round =>
        clear S1
        obtain ⟨k, dk, rfl, hak, hki, hg1, hsk, S1, HO⟩ := hrel
        by_cases hkl : k < i - 1
        · have hklz : (k : Int) < (i : Int) - 1 := by omega
          obtain ⟨iN7, hiN7⟩ : ∃ q, q = k := ⟨_, rfl⟩
          obtain ⟨jN7, hjN7⟩ : ∃ q, q = k + 1 := ⟨_, rfl⟩
          have ea7 : ((k : Int)).toNat = iN7 := by omega
          have pa7 : (0 : Int) ≤ (k : Int) := by omega
          have ba7 : (k : Int) < (d.size : Int) := by omega
          have ra7 : IntKind.i64.wrap ((k : Int)) = (k : Int) := by rw [IntKind.wrap_i64]; omega
          have ec7 : ((k : Int) + 1).toNat = jN7 := by omega
          have pc7 : (0 : Int) ≤ (k : Int) + 1 := by omega
          have bc7 : (k : Int) + 1 < (d.size : Int) := by omega
          have rc7 : IntKind.i64.wrap ((k : Int) + 1) = (k : Int) + 1 := by rw [IntKind.wrap_i64]; omega
          obtain ⟨x7, hx7⟩ : ∃ x, x = dk[k]! := ⟨_, rfl⟩
          obtain ⟨y7, hy7⟩ : ∃ x, x = dk[k + 1]! := ⟨_, rfl⟩
          have S3 : Aside (SB enc w0 blk off (swp dk (k) (k + 1)) ((wr.setCell ⟨blk, off + iN7, none⟩ (enc y7)).setCell ⟨blk, off + jN7, none⟩ (enc x7)).drew) := by rw [hiN7, hjN7, hx7, hy7]; exact S1.out.swapped R (k) (k + 1) (by omega) (by omega)
          have c7a := S1.out.c1 R (by omega) (k) (by omega)
          have c7b := S1.out.c1 R (by omega) (k + 1) (by omega)
          have f7a := S1.out.f1 R (by omega) (k) (by omega)
          have f7b := S1.out.f1 R (by omega) (k + 1) (by omega)
          obtain ⟨u7, c7c⟩ := S1.out.c2 R (by omega) (k) (k + 1) (by omega) (by omega) (enc y7)
          rw [← hjN7, ← hiN7] at c7c
          rw [← hx7, ← hiN7] at c7a
          rw [← hy7, ← hjN7] at c7b
          rw [← hiN7] at f7a
          rw [← hjN7] at f7b
          clear S1 hx7 hy7 hiN7 hjN7
          go_wp2_with fail
          go_big_region_o
          clear c7a c7b c7c f7a f7b
          generalize ((wr.setCell ⟨blk, off + iN7, none⟩ (enc y7)).setCell ⟨blk, off + jN7, none⟩ (enc x7)).drew = w3 at S3 ⊢
          clear ea7 ec7
          go_wp2
          go_roundg (i - 1 - (k + 1))
          case measure => omega
          case rel => exact ⟨k + 1, swp dk k (k + 1), by first | rfl | go_num | (congr 1; omega), by omega, by omega, Nat.le_refl _, by rw [size_swp]; exact hsk, S3, (show Hid _ from by rw [← HO.out, show i - 1 - k = (i - 1 - (k + 1)) + 1 by omega]; exact rfl)⟩
        · have hklz : ¬ ((k : Int) < (i : Int) - 1) := by omega
          have HF : Hid (symM (ltOf cf) (f + 1) a m b d = dk) := by show _ = _; unfold symM; rw [if_pos c1, HR.out, ← HO.out, show i - 1 - k = 0 by omega]; rfl
          go_wp2
          ((try simp only [Exit.inBlock, Exit.then]); first | refine bodyPost_end (results_none rfl _ _ _) rfl ?_ | refine bodyPost_ret (results_none rfl _ _ _) rfl ?_)
          exact ⟨rfl, by rw [HF.out]; exact S1.out⟩
end Go.Proofs.Ytppmjbnhghaffaa
/- slices.symMergeCmpFunc: one element behind. Conditions: as the theorem says. -/
namespace Go.Proofs.Ytppmjbnhghaffaa
open Go.Shelf Go.RowKit Go.Lib Go.Sort

set_option maxHeartbeats 16000000 in
set_option maxRecDepth 100000 in
theorem symMergeB_s {α : Type} [Inhabited α] (enc : α → Value) (cf : α → α → Int) (g : Nat) (cb : Array Value) (blk off cap : Nat) (d0 : Array α) (w0 : World) (eg : ∀ args w, (callFunc g args).run Try.prog w = .ok (.enter g args) w) (hcmp : CmpB Try.prog g cb enc cf blk off d0.size w0) (R : Row1 enc w0 blk off d0) (hsz : d0.size < 1000000000) (f a m b : Nat) (d : Array α) (w : World) (IH : ∀ (a m b : Nat) (d : Array α) (w : World), d0.size = d.size → SB enc w0 blk off d w → a < m → m < b → b ≤ d.size → b - a ≤ f →
    Calls Try.prog 201 #[.slice (some ⟨blk, off, none⟩) d.size cap, .int .i64 a, .int .i64 m, .int .i64 b, .func (.func g) #[] cb] w fun e w' => e = .returned (.tuple #[]) ∧ SB enc w0 blk off (symM (ltOf cf) f a m b d) w')
    (hs : d0.size = d.size) (S : SB enc w0 blk off d w) (h1 : a < m) (h2 : m < b) (h3 : b ≤ d.size) (h4 : b - a ≤ f + 1) (c1 : ¬ m - a = 1) (c2 : b - m = 1) :
    Calls Try.prog 201 #[.slice (some ⟨blk, off, none⟩) d.size cap, .int .i64 a, .int .i64 m, .int .i64 b, .func (.func g) #[] cb] w fun e w' => e = .returned (.tuple #[]) ∧ SB enc w0 blk off (symM (ltOf cf) (f + 1) a m b d) w' := by
  have mixed : Try.prog.follows .mixedOrders = true := by kernel_rfl
  have hcl0 := R.hO.cells
  simp only [Value.cells] at hcl0
  have hst := R.hO.store Try.prog
  have HC : Aside _ := hcmp
  have S0 : Aside _ := S
  have IH' : Aside _ := IH
  clear S hcmp IH
  have c1z : ¬ ((m : Int) - (a : Int) = 1) := by omega
  have c1b : ((m : Int) - (a : Int) == 1) = false := beq_eq_false_iff_ne.2 c1z
  have c2z : (b : Int) - (m : Int) = 1 := by omega
  have c2b : ((b : Int) - (m : Int) == 1) = true := beq_iff_eq.2 c2z
  go_enter Try.func201, Try.ntmps201
  go_wp2
  go_loopg [14, 15] (m - a) (fun g1 vi vj wr => ∃ (i j : Nat), vi = .int .i64 i ∧ vj = .int .i64 j ∧ a ≤ i ∧ i ≤ j ∧ j ≤ m ∧ j - i ≤ g1 ∧ Aside (SB enc w0 blk off d wr) ∧ Hid (∃ q, j - i ≤ q ∧ bsr (fun h => !(ltOf cf) d[m]! d[h]!) q i j = bsr (fun h => !(ltOf cf) d[m]! d[h]!) (b - a) (a) (m)))
  case atStart => exact ⟨a, m, rfl, rfl, Nat.le_refl _, by omega, Nat.le_refl _, Nat.le_refl _, S0, ⟨_, by omega, rfl⟩⟩
  case round =>
    clear S0
    obtain ⟨i, j, rfl, rfl, hlo, hij, hhi, hg1, S1, HB⟩ := hrel
    by_cases hlt : i < j
    · have hltz : (i : Int) < (j : Int) := by omega
      obtain ⟨h, hh⟩ : ∃ h, h = (i + j) / 2 := ⟨_, rfl⟩
      have zh : ((i : Int) + (j : Int)) / 2 = (h : Int) := by omega
      have h5 : i ≤ h := by omega
      have h6 : h < j := by omega
      have HH : Hid (h = (i + j) / 2) := hh
      clear hh
      cases hlv : (ltOf cf) d[m]! d[h]! with
      | true =>
        as_aux_lemma =>
          have HB' : Hid (∃ q, h - i ≤ q ∧ bsr (fun h => !(ltOf cf) d[m]! d[h]!) q i h = bsr (fun h => !(ltOf cf) d[m]! d[h]!) (b - a) (a) (m)) := by
            obtain ⟨q, hq, hb⟩ := HB.out
            cases q with
            | zero => omega
            | succ q => exact ⟨q, by omega, by rw [← hb]; (conv => rhs; unfold bsr; rw [if_pos hlt, ← HH.out]); exact (if_neg (by simp [hlv])).symm⟩
          clear HB
          obtain ⟨iN8, hiN8⟩ : ∃ q, q = m := ⟨_, rfl⟩
          obtain ⟨jN8, hjN8⟩ : ∃ q, q = h := ⟨_, rfl⟩
          have ea8 : ((m : Int)).toNat = iN8 := by omega
          have pa8 : (0 : Int) ≤ (m : Int) := by omega
          have ba8 : (m : Int) < (d.size : Int) := by omega
          have ra8 : IntKind.i64.wrap ((m : Int)) = (m : Int) := by rw [IntKind.wrap_i64]; omega
          have ec8 : ((h : Int)).toNat = jN8 := by omega
          have pc8 : (0 : Int) ≤ (h : Int) := by omega
          have bc8 : (h : Int) < (d.size : Int) := by omega
          have rc8 : IntKind.i64.wrap ((h : Int)) = (h : Int) := by rw [IntKind.wrap_i64]; omega
          obtain ⟨x8, hx8⟩ : ∃ x, x = d[m]! := ⟨_, rfl⟩
          obtain ⟨y8, hy8⟩ : ∃ x, x = d[h]! := ⟨_, rfl⟩
          have l8a := S1.out.cl R (by omega) (m) (by omega)
          have l8b := S1.out.cl R (by omega) (h) (by omega)
          rw [← hx8, ← hiN8] at l8a
          rw [← hy8, ← hjN8] at l8b
          have hc8 := S1.out.cmp HC.out (by omega) x8 y8
          have hv8 : cf x8 y8 < 0 := by rw [hx8, hy8]; exact of_decide_eq_true hlv
          have hd8 : decide (cf x8 y8 < 0) = true := decide_eq_true hv8
          clear hx8 hy8 hiN8 hjN8
          go_wp2_with fail
          refine wp_region_ext (by kernel_rfl) (by kernel_rfl) ?_
          repeat (go_big_quiet_step ((first | (go_at_fn g; with_reducible exact qe (hc8 _)))))
          refine wpQuiet_nil ?_
          intro _ hw'
          obtain ⟨gx, hw''⟩ := hw'
          subst hw''
          have S2 : Aside (SB enc w0 blk off d (Go.Proofs.Ytppmjbnhghaffaa.ext wr gx)) := S1.out.ext gx
          clear l8a l8b hc8 S1
          generalize Go.Proofs.Ytppmjbnhghaffaa.ext wr gx = w2 at S2 ⊢
          clear gx
          clear ea8 ec8
          go_wp2
          go_roundg (h - i)
          case measure => omega
          case rel => exact ⟨i, h, rfl, by first | rfl | go_num | (congr 1; omega), by omega, by omega, by omega, Nat.le_refl _, S2, HB'⟩
      | false =>
        as_aux_lemma =>
          have HB' : Hid (∃ q, j - (h + 1) ≤ q ∧ bsr (fun h => !(ltOf cf) d[m]! d[h]!) q (h + 1) j = bsr (fun h => !(ltOf cf) d[m]! d[h]!) (b - a) (a) (m)) := by
            obtain ⟨q, hq, hb⟩ := HB.out
            cases q with
            | zero => omega
            | succ q => exact ⟨q, by omega, by rw [← hb]; (conv => rhs; unfold bsr; rw [if_pos hlt, ← HH.out]); exact (if_pos (by simp [hlv])).symm⟩
          clear HB
          obtain ⟨iN9, hiN9⟩ : ∃ q, q = m := ⟨_, rfl⟩
          obtain ⟨jN9, hjN9⟩ : ∃ q, q = h := ⟨_, rfl⟩
          have ea9 : ((m : Int)).toNat = iN9 := by omega
          have pa9 : (0 : Int) ≤ (m : Int) := by omega
          have ba9 : (m : Int) < (d.size : Int) := by omega
          have ra9 : IntKind.i64.wrap ((m : Int)) = (m : Int) := by rw [IntKind.wrap_i64]; omega
          have ec9 : ((h : Int)).toNat = jN9 := by omega
          have pc9 : (0 : Int) ≤ (h : Int) := by omega
          have bc9 : (h : Int) < (d.size : Int) := by omega
          have rc9 : IntKind.i64.wrap ((h : Int)) = (h : Int) := by rw [IntKind.wrap_i64]; omega
          obtain ⟨x9, hx9⟩ : ∃ x, x = d[m]! := ⟨_, rfl⟩
          obtain ⟨y9, hy9⟩ : ∃ x, x = d[h]! := ⟨_, rfl⟩
          have l9a := S1.out.cl R (by omega) (m) (by omega)
          have l9b := S1.out.cl R (by omega) (h) (by omega)
          rw [← hx9, ← hiN9] at l9a
          rw [← hy9, ← hjN9] at l9b
          have hc9 := S1.out.cmp HC.out (by omega) x9 y9
          have hv9 : ¬ cf x9 y9 < 0 := by rw [hx9, hy9]; exact of_decide_eq_false hlv
          have hd9 : decide (cf x9 y9 < 0) = false := decide_eq_false hv9
          clear hx9 hy9 hiN9 hjN9
          go_wp2_with fail
          refine wp_region_ext (by kernel_rfl) (by kernel_rfl) ?_
          repeat (go_big_quiet_step ((first | (go_at_fn g; with_reducible exact qe (hc9 _)))))
          refine wpQuiet_nil ?_
          intro _ hw'
          obtain ⟨gx, hw''⟩ := hw'
          subst hw''
          have S2 : Aside (SB enc w0 blk off d (Go.Proofs.Ytppmjbnhghaffaa.ext wr gx)) := S1.out.ext gx
          clear l9a l9b hc9 S1
          generalize Go.Proofs.Ytppmjbnhghaffaa.ext wr gx = w2 at S2 ⊢
          clear gx
          clear ea9 ec9
          go_wp2
          go_roundg (j - (h + 1))
          case measure => omega
          case rel => exact ⟨h + 1, j, by first | rfl | go_num | (congr 1; omega), rfl, by omega, by omega, by omega, Nat.le_refl _, S2, HB'⟩
    · obtain rfl : i = j := by omega
      have HR : Hid (bsr (fun h => !(ltOf cf) d[m]! d[h]!) (b - a) (a) (m) = i) := by
        obtain ⟨q, hq, hb⟩ := HB.out
        show _ = _
        rw [← hb]; cases q with
        | zero => rfl
        | succ q => unfold bsr; rw [if_neg (by omega)]
      clear HB
      go_wp2
      go_loopg [17] (m - i) (fun g1 vk wr => ∃ (k : Nat) (dk : Array α), vk = .int .i64 k ∧ i ≤ k ∧ k ≤ m ∧ k - i ≤ g1 ∧ dk.size = d.size ∧ Aside (SB enc w0 blk off dk wr) ∧ Hid (downA (k - i) k dk = downA (m - i) m d))
      case atStart => exact ⟨m, d, rfl, by omega, Nat.le_refl _, Nat.le_refl _, rfl, S1, rfl⟩
      case round =>
        clear S1
        obtain ⟨k, dk, rfl, hik, hkm, hg1, hsk, S1, HO⟩ := hrel
        by_cases hkl : i < k
        · have hklz : (i : Int) < (k : Int) := by omega
          obtain ⟨kp, hkp⟩ : ∃ q, q + 1 = k := ⟨k - 1, by omega⟩
          have zkp : (k : Int) = (kp : Int) + 1 := by omega
          have hklz' : (i : Int) < (kp : Int) + 1 := by omega
          obtain ⟨iN10, hiN10⟩ : ∃ q, q = k := ⟨_, rfl⟩
          obtain ⟨jN10, hjN10⟩ : ∃ q, q = k - 1 := ⟨_, rfl⟩
          have ea10 : ((kp : Int) + 1).toNat = iN10 := by omega
          have pa10 : (0 : Int) ≤ (kp : Int) + 1 := by omega
          have ba10 : (kp : Int) + 1 < (d.size : Int) := by omega
          have ra10 : IntKind.i64.wrap ((kp : Int) + 1) = (kp : Int) + 1 := by rw [IntKind.wrap_i64]; omega
          have ec10 : ((kp : Int)).toNat = jN10 := by omega
          have pc10 : (0 : Int) ≤ (kp : Int) := by omega
          have bc10 : (kp : Int) < (d.size : Int) := by omega
          have rc10 : IntKind.i64.wrap ((kp : Int)) = (kp : Int) := by rw [IntKind.wrap_i64]; omega
          obtain ⟨x10, hx10⟩ : ∃ x, x = dk[k]! := ⟨_, rfl⟩
          obtain ⟨y10, hy10⟩ : ∃ x, x = dk[k - 1]! := ⟨_, rfl⟩
          have S3 : Aside (SB enc w0 blk off (swp dk (k) (k - 1)) ((wr.setCell ⟨blk, off + iN10, none⟩ (enc y10)).setCell ⟨blk, off + jN10, none⟩ (enc x10)).drew) := by rw [hiN10, hjN10, hx10, hy10]; exact S1.out.swapped R (k) (k - 1) (by omega) (by omega)
          have c10a := S1.out.c1 R (by omega) (k) (by omega)
          have c10b := S1.out.c1 R (by omega) (k - 1) (by omega)
          have f10a := S1.out.f1 R (by omega) (k) (by omega)
          have f10b := S1.out.f1 R (by omega) (k - 1) (by omega)
          obtain ⟨u10, c10c⟩ := S1.out.c2 R (by omega) (k) (k - 1) (by omega) (by omega) (enc y10)
          rw [← hjN10, ← hiN10] at c10c
          rw [← hx10, ← hiN10] at c10a
          rw [← hy10, ← hjN10] at c10b
          rw [← hiN10] at f10a
          rw [← hjN10] at f10b
          clear S1 hx10 hy10 hiN10 hjN10
          go_wp2_with fail
          go_big_region_o
          clear c10a c10b c10c f10a f10b
          generalize ((wr.setCell ⟨blk, off + iN10, none⟩ (enc y10)).setCell ⟨blk, off + jN10, none⟩ (enc x10)).drew = w3 at S3 ⊢
          clear ea10 ec10
          go_wp2
          go_roundg (k - 1 - i)
          case measure => omega
          case rel => exact ⟨k - 1, swp dk k (k - 1), by first | rfl | go_num | (congr 1; omega), by omega, by omega, Nat.le_refl _, by rw [size_swp]; exact hsk, S3, (show Hid _ from by rw [← HO.out, show k - i = (k - 1 - i) + 1 by omega]; exact rfl)⟩
        · have hklz : ¬ ((i : Int) < (k : Int)) := by omega
          have HF : Hid (symM (ltOf cf) (f + 1) a m b d = dk) := by show _ = _; unfold symM; rw [if_neg c1, if_pos c2, HR.out, ← HO.out, show k - i = 0 by omega]; rfl
          go_wp2
          ((try simp only [Exit.inBlock, Exit.then]); first | refine bodyPost_end (results_none rfl _ _ _) rfl ?_ | refine bodyPost_ret (results_none rfl _ _ _) rfl ?_)
          exact ⟨rfl, by rw [HF.out]; exact S1.out⟩
end Go.Proofs.Ytppmjbnhghaffaa
/- slices.symMergeCmpFunc: more than one on each side. Conditions: as the theorem says. -/
namespace Go.Proofs.Ytppmjbnhghaffaa
open Go.Shelf Go.RowKit Go.Lib Go.Sort

set_option maxHeartbeats 16000000 in
set_option maxRecDepth 100000 in
theorem symMergeC_s {α : Type} [Inhabited α] (enc : α → Value) (cf : α → α → Int) (g : Nat) (cb : Array Value) (blk off cap : Nat) (d0 : Array α) (w0 : World) (eg : ∀ args w, (callFunc g args).run Try.prog w = .ok (.enter g args) w) (hcmp : CmpB Try.prog g cb enc cf blk off d0.size w0) (R : Row1 enc w0 blk off d0) (hsz : d0.size < 1000000000) (f a m b : Nat) (d : Array α) (w : World) (IH : ∀ (a m b : Nat) (d : Array α) (w : World), d0.size = d.size → SB enc w0 blk off d w → a < m → m < b → b ≤ d.size → b - a ≤ f →
    Calls Try.prog 201 #[.slice (some ⟨blk, off, none⟩) d.size cap, .int .i64 a, .int .i64 m, .int .i64 b, .func (.func g) #[] cb] w fun e w' => e = .returned (.tuple #[]) ∧ SB enc w0 blk off (symM (ltOf cf) f a m b d) w')
    (hs : d0.size = d.size) (S : SB enc w0 blk off d w) (h1 : a < m) (h2 : m < b) (h3 : b ≤ d.size) (h4 : b - a ≤ f + 1) (c1 : ¬ m - a = 1) (c2 : ¬ b - m = 1) :
    Calls Try.prog 201 #[.slice (some ⟨blk, off, none⟩) d.size cap, .int .i64 a, .int .i64 m, .int .i64 b, .func (.func g) #[] cb] w fun e w' => e = .returned (.tuple #[]) ∧ SB enc w0 blk off (symM (ltOf cf) (f + 1) a m b d) w' := by
  have mixed : Try.prog.follows .mixedOrders = true := by kernel_rfl
  have hcl0 := R.hO.cells
  simp only [Value.cells] at hcl0
  have hst := R.hO.store Try.prog
  have HC : Aside _ := hcmp
  have S0 : Aside _ := S
  have IH' : Aside _ := IH
  clear S hcmp IH
  have c1z : ¬ ((m : Int) - (a : Int) = 1) := by omega
  have c1b : ((m : Int) - (a : Int) == 1) = false := beq_eq_false_iff_ne.2 c1z
  have c2z : ¬ ((b : Int) - (m : Int) = 1) := by omega
  have c2b : ((b : Int) - (m : Int) == 1) = false := beq_eq_false_iff_ne.2 c2z
  obtain ⟨mid, hmid⟩ : ∃ q, q = (a + b) / 2 := ⟨_, rfl⟩
  have zmid : ((a : Int) + (b : Int)) / 2 = (mid : Int) := by omega
  obtain ⟨s0, hs0⟩ : ∃ s, s = symS0 a m b := ⟨_, rfl⟩
  obtain ⟨r0, hr0⟩ : ∃ s, s = symR0 a m b := ⟨_, rfl⟩
  have q0 : s0 = (if mid < m then mid + m - b else a) := by rw [hs0]; unfold symS0; rw [hmid]
  have q1 : r0 = (if mid < m then mid else m) := by rw [hr0]; unfold symR0; rw [hmid]
  have q2 : a ≤ s0 ∧ s0 ≤ r0 ∧ r0 ≤ m ∧ r0 ≤ mid ∧ mid + m - b ≤ s0 := by rw [q0, q1]; split <;> omega
  have q3 : (mid : Int) < (m : Int) ∧ (s0 : Int) = (mid : Int) + (m : Int) - (b : Int) ∧ r0 = mid ∨ ¬ (mid : Int) < (m : Int) ∧ s0 = a ∧ r0 = m := by
    by_cases hc : mid < m
    · rw [if_pos hc] at q0 q1; left; refine ⟨by omega, by omega, q1⟩
    · rw [if_neg hc] at q0 q1; right; exact ⟨by omega, q0, q1⟩
  obtain ⟨q4, q5, q6, q7, q8⟩ := q2
  clear q0 q1
  have HSt : Hid (symSt (ltOf cf) d a m b = bsr (fun c => !(ltOf cf) d[mid + m - 1 - c]! d[c]!) (b - a) s0 r0) := by show _ = _; unfold symSt; rw [← hs0, ← hr0, ← hmid]
  clear hs0 hr0
  have HM : Hid (mid = (a + b) / 2) := hmid
  clear hmid
  go_enter Try.func201, Try.ntmps201
  go_upto_if 140 with fail
  go_cut [20, 21] (fun s r wx => s = .int .i64 s0 ∧ r = .int .i64 r0 ∧ wx = w)
  case first =>
    as_aux_lemma =>
      rcases q3 with ⟨d1, d2, d3⟩ | ⟨d1, d2, d3⟩
      · go_wp2_with fail
        all_goals (go_meet; exact ⟨by first | rfl | (congr 1; omega), by first | rfl | (congr 1; omega), rfl⟩)
      · go_wp2_with fail
        all_goals (go_meet; exact ⟨by first | rfl | (congr 1; omega), by first | rfl | (congr 1; omega), rfl⟩)
  case rest =>
  clear q3
  obtain ⟨rfl, rfl, rfl⟩ := hcut
  go_at_K
  go_wp2
  go_loopg [20, 21] (r0 - s0) (fun g1 vi vj wr => ∃ (i j : Nat), vi = .int .i64 i ∧ vj = .int .i64 j ∧ s0 ≤ i ∧ i ≤ j ∧ j ≤ r0 ∧ j - i ≤ g1 ∧ Aside (SB enc w0 blk off d wr) ∧ Hid (∃ q, j - i ≤ q ∧ bsr (fun c => !(ltOf cf) d[mid + m - 1 - c]! d[c]!) q i j = bsr (fun c => !(ltOf cf) d[mid + m - 1 - c]! d[c]!) (b - a) (s0) (r0)))
  case atStart => exact ⟨s0, r0, rfl, rfl, Nat.le_refl _, by omega, Nat.le_refl _, Nat.le_refl _, S0, ⟨_, by omega, rfl⟩⟩
  case round =>
    clear S0
    obtain ⟨i, j, rfl, rfl, hlo, hij, hhi, hg1, S1, HB⟩ := hrel
    by_cases hlt : i < j
    · have hltz : (i : Int) < (j : Int) := by omega
      obtain ⟨h, hh⟩ : ∃ h, h = (i + j) / 2 := ⟨_, rfl⟩
      have zh : ((i : Int) + (j : Int)) / 2 = (h : Int) := by omega
      have h5 : i ≤ h := by omega
      have h6 : h < j := by omega
      have HH : Hid (h = (i + j) / 2) := hh
      clear hh
      cases hlv : (ltOf cf) d[mid + m - 1 - h]! d[h]! with
      | true =>
        as_aux_lemma =>
          have HB' : Hid (∃ q, h - i ≤ q ∧ bsr (fun c => !(ltOf cf) d[mid + m - 1 - c]! d[c]!) q i h = bsr (fun c => !(ltOf cf) d[mid + m - 1 - c]! d[c]!) (b - a) (s0) (r0)) := by
            obtain ⟨q, hq, hb⟩ := HB.out
            cases q with
            | zero => omega
            | succ q => exact ⟨q, by omega, by rw [← hb]; (conv => rhs; unfold bsr; rw [if_pos hlt, ← HH.out]); exact (if_neg (by simp [hlv])).symm⟩
          clear HB
          obtain ⟨iN11, hiN11⟩ : ∃ q, q = mid + m - 1 - h := ⟨_, rfl⟩
          obtain ⟨jN11, hjN11⟩ : ∃ q, q = h := ⟨_, rfl⟩
          have ea11 : ((mid : Int) + (m : Int) - 1 - (h : Int)).toNat = iN11 := by omega
          have pa11 : (0 : Int) ≤ (mid : Int) + (m : Int) - 1 - (h : Int) := by omega
          have ba11 : (mid : Int) + (m : Int) - 1 - (h : Int) < (d.size : Int) := by omega
          have ra11 : IntKind.i64.wrap ((mid : Int) + (m : Int) - 1 - (h : Int)) = (mid : Int) + (m : Int) - 1 - (h : Int) := by rw [IntKind.wrap_i64]; omega
          have ec11 : ((h : Int)).toNat = jN11 := by omega
          have pc11 : (0 : Int) ≤ (h : Int) := by omega
          have bc11 : (h : Int) < (d.size : Int) := by omega
          have rc11 : IntKind.i64.wrap ((h : Int)) = (h : Int) := by rw [IntKind.wrap_i64]; omega
          obtain ⟨x11, hx11⟩ : ∃ x, x = d[mid + m - 1 - h]! := ⟨_, rfl⟩
          obtain ⟨y11, hy11⟩ : ∃ x, x = d[h]! := ⟨_, rfl⟩
          have l11a := S1.out.cl R (by omega) (mid + m - 1 - h) (by omega)
          have l11b := S1.out.cl R (by omega) (h) (by omega)
          rw [← hx11, ← hiN11] at l11a
          rw [← hy11, ← hjN11] at l11b
          have hc11 := S1.out.cmp HC.out (by omega) x11 y11
          have hv11 : cf x11 y11 < 0 := by rw [hx11, hy11]; exact of_decide_eq_true hlv
          have hd11 : decide (cf x11 y11 < 0) = true := decide_eq_true hv11
          clear hx11 hy11 hiN11 hjN11
          go_wp2_with fail
          refine wp_region_ext (by kernel_rfl) (by kernel_rfl) ?_
          repeat (go_big_quiet_step ((first | (go_at_fn g; with_reducible exact qe (hc11 _)))))
          refine wpQuiet_nil ?_
          intro _ hw'
          obtain ⟨gx, hw''⟩ := hw'
          subst hw''
          have S2 : Aside (SB enc w0 blk off d (Go.Proofs.Ytppmjbnhghaffaa.ext wr gx)) := S1.out.ext gx
          clear l11a l11b hc11 S1
          generalize Go.Proofs.Ytppmjbnhghaffaa.ext wr gx = w2 at S2 ⊢
          clear gx
          clear ea11 ec11
          go_wp2
          go_roundg (h - i)
          case measure => omega
          case rel => exact ⟨i, h, rfl, by first | rfl | go_num | (congr 1; omega), by omega, by omega, by omega, Nat.le_refl _, S2, HB'⟩
      | false =>
        as_aux_lemma =>
          have HB' : Hid (∃ q, j - (h + 1) ≤ q ∧ bsr (fun c => !(ltOf cf) d[mid + m - 1 - c]! d[c]!) q (h + 1) j = bsr (fun c => !(ltOf cf) d[mid + m - 1 - c]! d[c]!) (b - a) (s0) (r0)) := by
            obtain ⟨q, hq, hb⟩ := HB.out
            cases q with
            | zero => omega
            | succ q => exact ⟨q, by omega, by rw [← hb]; (conv => rhs; unfold bsr; rw [if_pos hlt, ← HH.out]); exact (if_pos (by simp [hlv])).symm⟩
          clear HB
          obtain ⟨iN12, hiN12⟩ : ∃ q, q = mid + m - 1 - h := ⟨_, rfl⟩
          obtain ⟨jN12, hjN12⟩ : ∃ q, q = h := ⟨_, rfl⟩
          have ea12 : ((mid : Int) + (m : Int) - 1 - (h : Int)).toNat = iN12 := by omega
          have pa12 : (0 : Int) ≤ (mid : Int) + (m : Int) - 1 - (h : Int) := by omega
          have ba12 : (mid : Int) + (m : Int) - 1 - (h : Int) < (d.size : Int) := by omega
          have ra12 : IntKind.i64.wrap ((mid : Int) + (m : Int) - 1 - (h : Int)) = (mid : Int) + (m : Int) - 1 - (h : Int) := by rw [IntKind.wrap_i64]; omega
          have ec12 : ((h : Int)).toNat = jN12 := by omega
          have pc12 : (0 : Int) ≤ (h : Int) := by omega
          have bc12 : (h : Int) < (d.size : Int) := by omega
          have rc12 : IntKind.i64.wrap ((h : Int)) = (h : Int) := by rw [IntKind.wrap_i64]; omega
          obtain ⟨x12, hx12⟩ : ∃ x, x = d[mid + m - 1 - h]! := ⟨_, rfl⟩
          obtain ⟨y12, hy12⟩ : ∃ x, x = d[h]! := ⟨_, rfl⟩
          have l12a := S1.out.cl R (by omega) (mid + m - 1 - h) (by omega)
          have l12b := S1.out.cl R (by omega) (h) (by omega)
          rw [← hx12, ← hiN12] at l12a
          rw [← hy12, ← hjN12] at l12b
          have hc12 := S1.out.cmp HC.out (by omega) x12 y12
          have hv12 : ¬ cf x12 y12 < 0 := by rw [hx12, hy12]; exact of_decide_eq_false hlv
          have hd12 : decide (cf x12 y12 < 0) = false := decide_eq_false hv12
          clear hx12 hy12 hiN12 hjN12
          go_wp2_with fail
          refine wp_region_ext (by kernel_rfl) (by kernel_rfl) ?_
          repeat (go_big_quiet_step ((first | (go_at_fn g; with_reducible exact qe (hc12 _)))))
          refine wpQuiet_nil ?_
          intro _ hw'
          obtain ⟨gx, hw''⟩ := hw'
          subst hw''
          have S2 : Aside (SB enc w0 blk off d (Go.Proofs.Ytppmjbnhghaffaa.ext wr gx)) := S1.out.ext gx
          clear l12a l12b hc12 S1
          generalize Go.Proofs.Ytppmjbnhghaffaa.ext wr gx = w2 at S2 ⊢
          clear gx
          clear ea12 ec12
          go_wp2
          go_roundg (j - (h + 1))
          case measure => omega
          case rel => exact ⟨h + 1, j, by first | rfl | go_num | (congr 1; omega), rfl, by omega, by omega, by omega, Nat.le_refl _, S2, HB'⟩
    · obtain rfl : i = j := by omega
      have HR : Hid (bsr (fun c => !(ltOf cf) d[mid + m - 1 - c]! d[c]!) (b - a) (s0) (r0) = i) := by
        obtain ⟨q, hq, hb⟩ := HB.out
        show _ = _
        rw [← hb]; cases q with
        | zero => rfl
        | succ q => unfold bsr; rw [if_neg (by omega)]
      clear HB
      obtain ⟨e, he⟩ : ∃ e, e = mid + m - i := ⟨_, rfl⟩
      have ze : (mid : Int) + (m : Int) - (i : Int) = (e : Int) := by omega
      have HG := symM_gen (ltOf cf) f a m b d mid i e c1 c2 HM.out (HSt.out.trans HR.out) he
      have HE : Hid (e = mid + m - i) := he
      have q9 : m ≤ e ∧ e ≤ b := by omega
      obtain ⟨q10, q11⟩ := q9
      clear HSt HR hg1 he
      obtain ⟨D1, hD1⟩ : ∃ D, D = (if i < m ∧ m < e then rotA m (e - i) (m - i) (e - m) d else d) := ⟨_, rfl⟩
      obtain ⟨D2, hD2⟩ : ∃ D, D = (if a < i ∧ i < mid then symM (ltOf cf) f a i mid D1 else D1) := ⟨_, rfl⟩
      have sD1 : D1.size = d.size := by rw [hD1]; split <;> simp only [size_rotA]
      have sD2 : D2.size = d.size := by rw [hD2]; split <;> simp only [size_symM, sD1]
      rw [← hD1, ← hD2] at HG
      have HG' : Hid _ := HG
      have HD1 : Hid _ := hD1
      have HD2 : Hid _ := hD2
      clear HG hD1 hD2
      go_upto_region 39 with fail
      obtain ⟨y1, hy1⟩ : ∃ y, y = decide (i < m ∧ m < e) := ⟨_, rfl⟩
      have HY1 := Lib.hid hy1
      clear hy1
      go_cut [185] (fun s wx => s = .bool y1 ∧ wx = wr)
      case first =>
        as_aux_lemma =>
          by_cases u1 : (i : Int) < (m : Int)
          · go_wp2_with fail
            all_goals (go_meet; exact ⟨by rw [HY1.out]; first | (rw [decide_eq_true (by omega)]; done) | (rw [decide_eq_false (by omega)]; done) | (congr 1; rw [decide_eq_decide]; omega), rfl⟩)
          · go_wp2_with fail
            all_goals (go_meet; exact ⟨by rw [HY1.out, decide_eq_false (by omega)], rfl⟩)
      case rest =>
      obtain ⟨rfl, rfl⟩ := hcut
      go_at_K
      go_upto_if 185 with fail
      go_cut [] (fun wx => Aside (SB enc w0 blk off D1 wx))
      case first =>
        as_aux_lemma =>
          cases hyy : y1 with
          | true =>
            have b1 : i < m ∧ m < e := of_decide_eq_true (by rw [← HY1.out, hyy])
            have hr := rotate_s i m e enc g cb blk off cap d0 d w0 wc R hs S1.out b1.1 b1.2 (by omega) (by omega)
            have HD : Hid (D1 = rotA m (e - i) (m - i) (e - m) d) := by show _ = _; rw [HD1.out, if_pos b1]
            go_wp2_with (go_at_call 202; refine hr.mono ?_; rintro e1 w2 ⟨rfl, S2⟩)
            all_goals (go_meet; rw [HD.out]; exact S2)
          | false =>
            have b1 : ¬ (i < m ∧ m < e) := of_decide_eq_false (by rw [← HY1.out, hyy])
            have HD : Hid (D1 = d) := by show _ = _; rw [HD1.out, if_neg b1]
            go_wp2_with fail
            all_goals (go_meet; rw [HD.out]; exact S1)
      case rest =>
      clear S1
      have S1' := hcut
      clear hcut
      go_at_K
      go_upto_region 41 with fail
      obtain ⟨y2, hy2⟩ : ∃ y, y = decide (a < i ∧ i < mid) := ⟨_, rfl⟩
      have HY2 := Lib.hid hy2
      clear hy2
      go_cut [199] (fun s wx => s = .bool y2 ∧ wx = wc)
      case first =>
        as_aux_lemma =>
          by_cases u1 : (a : Int) < (i : Int)
          · go_wp2_with fail
            all_goals (go_meet; exact ⟨by rw [HY2.out]; first | (rw [decide_eq_true (by omega)]; done) | (rw [decide_eq_false (by omega)]; done) | (congr 1; rw [decide_eq_decide]; omega), rfl⟩)
          · go_wp2_with fail
            all_goals (go_meet; exact ⟨by rw [HY2.out, decide_eq_false (by omega)], rfl⟩)
      case rest =>
      obtain ⟨rfl, rfl⟩ := hcut
      go_at_K
      go_upto_if 199 with fail
      go_cut [] (fun wx => Aside (SB enc w0 blk off D2 wx))
      case first =>
        as_aux_lemma =>
          cases hyy : y2 with
          | true =>
            have b1 : a < i ∧ i < mid := of_decide_eq_true (by rw [← HY2.out, hyy])
            have hr := IH'.out a i mid D1 wc (by omega) S1'.out b1.1 b1.2 (by omega) (by omega)
            rw [sD1] at hr
            have HD : Hid (D2 = symM (ltOf cf) f a i mid D1) := by show _ = _; rw [HD2.out, if_pos b1]
            go_wp2_with (go_at_call 201; refine hr.mono ?_; rintro e1 w2 ⟨rfl, S2⟩)
            all_goals (go_meet; rw [HD.out]; exact S2)
          | false =>
            have b1 : ¬ (a < i ∧ i < mid) := of_decide_eq_false (by rw [← HY2.out, hyy])
            have HD : Hid (D2 = D1) := by show _ = _; rw [HD2.out, if_neg b1]
            go_wp2_with fail
            all_goals (go_meet; rw [HD.out]; exact S1')
      case rest =>
      clear S1'
      have S2' := hcut
      clear hcut
      go_at_K
      go_upto_region 43 with fail
      obtain ⟨y3, hy3⟩ : ∃ y, y = decide (mid < e ∧ e < b) := ⟨_, rfl⟩
      have HY3 := Lib.hid hy3
      clear hy3
      go_cut [213] (fun s wx => s = .bool y3 ∧ wx = wc)
      case first =>
        as_aux_lemma =>
          by_cases u1 : (mid : Int) < (e : Int)
          · go_wp2_with fail
            all_goals (go_meet; exact ⟨by rw [HY3.out]; first | (rw [decide_eq_true (by omega)]; done) | (rw [decide_eq_false (by omega)]; done) | (congr 1; rw [decide_eq_decide]; omega), rfl⟩)
          · go_wp2_with fail
            all_goals (go_meet; exact ⟨by rw [HY3.out, decide_eq_false (by omega)], rfl⟩)
      case rest =>
      obtain ⟨rfl, rfl⟩ := hcut
      go_at_K
      go_upto_if 213 with fail
      cases hyy : y3 with
      | true =>
        have b1 : mid < e ∧ e < b := of_decide_eq_true (by rw [← HY3.out, hyy])
        have hr := IH'.out mid e b D2 wc (by omega) S2'.out b1.1 b1.2 (by omega) (by omega)
        rw [sD2] at hr
        go_wp2_with (go_at_call 201; refine hr.mono ?_; rintro e1 w2 ⟨rfl, S3⟩)
        ((try simp only [Exit.inBlock, Exit.then]); first | refine bodyPost_end (results_none rfl _ _ _) rfl ?_ | refine bodyPost_ret (results_none rfl _ _ _) rfl ?_)
        exact ⟨rfl, by rw [HG'.out, if_pos b1]; exact S3⟩
      | false =>
        have b1 : ¬ (mid < e ∧ e < b) := of_decide_eq_false (by rw [← HY3.out, hyy])
        go_wp2_with fail
        ((try simp only [Exit.inBlock, Exit.then]); first | refine bodyPost_end (results_none rfl _ _ _) rfl ?_ | refine bodyPost_ret (results_none rfl _ _ _) rfl ?_)
        exact ⟨rfl, by rw [HG'.out, if_neg b1]; exact S2'.out⟩
end Go.Proofs.Ytppmjbnhghaffaa
/- slices.symMergeCmpFunc: whole. Conditions: as the theorem says. -/
namespace Go.Proofs.Ytppmjbnhghaffaa
open Go.Shelf Go.RowKit Go.Lib Go.Sort

theorem symMerge_s {α : Type} [Inhabited α] (enc : α → Value) (cf : α → α → Int) (g : Nat) (cb : Array Value) (blk off cap : Nat) (d0 : Array α) (w0 : World) (eg : ∀ args w, (callFunc g args).run Try.prog w = .ok (.enter g args) w) (hcmp : CmpB Try.prog g cb enc cf blk off d0.size w0) (R : Row1 enc w0 blk off d0) (hsz : d0.size < 1000000000) : ∀ (f a m b : Nat) (d : Array α) (w : World),
    d0.size = d.size → SB enc w0 blk off d w → a < m → m < b → b ≤ d.size → b - a ≤ f →
    Calls Try.prog 201 #[.slice (some ⟨blk, off, none⟩) d.size cap, .int .i64 a, .int .i64 m, .int .i64 b, .func (.func g) #[] cb] w fun e w' => e = .returned (.tuple #[]) ∧ SB enc w0 blk off (symM (ltOf cf) f a m b d) w'
  | 0, a, m, b, d, w, hs, S, h1, h2, h3, h4 => by omega
  | f + 1, a, m, b, d, w, hs, S, h1, h2, h3, h4 => by
    have IH := symMerge_s enc cf g cb blk off cap d0 w0 eg hcmp R hsz f
    by_cases c1 : m - a = 1
    · exact symMergeA_s enc cf g cb blk off cap d0 w0 eg hcmp R hsz f a m b d w IH hs S h1 h2 h3 h4 c1
    by_cases c2 : b - m = 1
    · exact symMergeB_s enc cf g cb blk off cap d0 w0 eg hcmp R hsz f a m b d w IH hs S h1 h2 h3 h4 c1 c2
    · exact symMergeC_s enc cf g cb blk off cap d0 w0 eg hcmp R hsz f a m b d w IH hs S h1 h2 h3 h4 c1 c2
end Go.Proofs.Ytppmjbnhghaffaa
/- slices.SortStableFunc at ints: the row holds the stable order. Conditions: an order that is weak and lays blocks at most. -/
namespace Go.Proofs.Ytppmjbnhghaffaa
open Go.Shelf Go.RowKit Go.Lib Go.Sort

theorem size_insInner {α : Type} [Inhabited α] (lt : α → α → Bool) (a : Nat) : ∀ (j : Nat) (d : Array α), (insInner lt a j d).size = d.size
  | 0, _ => rfl
  | j + 1, d => by unfold insInner; split
                   · rw [size_insInner lt a j, size_swp]
                   · rfl
theorem size_insOuter {α : Type} [Inhabited α] (lt : α → α → Bool) (a b : Nat) : ∀ (n i : Nat) (d : Array α), b - i ≤ n → (insOuter lt a b i d).size = d.size
  | 0, i, d, h => by unfold insOuter; rw [if_neg (by omega)]
  | n + 1, i, d, h => by
    unfold insOuter; split
    · rw [size_insOuter lt a b n (i + 1) _ (by omega), size_insInner]
    · rfl
theorem size_insertionSort {α : Type} [Inhabited α] (lt : α → α → Bool) (d : Array α) (a b : Nat) : (Sort.insertionSort lt d a b).size = d.size := size_insOuter lt a b _ _ d (Nat.le_refl _)
set_option maxHeartbeats 8000000 in
set_option maxRecDepth 100000 in
theorem stable_s {α : Type} [Inhabited α] (enc : α → Value) (cf : α → α → Int) (g : Nat) (cb : Array Value) (blk off cap : Nat) (d0 d : Array α) (w0 w : World) (eg : ∀ args w, (callFunc g args).run Try.prog w = .ok (.enter g args) w) (hcmp : CmpB Try.prog g cb enc cf blk off d0.size w0) (R : Row1 enc w0 blk off d0) (hs : d0.size = d.size) (S : SB enc w0 blk off d w) (hsz : d0.size < 1000000000) :
    Calls Try.prog 199 #[.slice (some ⟨blk, off, none⟩) d.size cap, .int .i64 d.size, .func (.func g) #[] cb] w fun e w' => e = .returned (.tuple #[]) ∧ SB enc w0 blk off (stableA (ltOf cf) d) w' := by
  have INS : Aside (∀ (a b : Nat) (dk : Array α) (wk : World), d0.size = dk.size → SB enc w0 blk off dk wk → a ≤ b → b ≤ dk.size → Calls Try.prog 200 #[.slice (some ⟨blk, off, none⟩) dk.size cap, .int .i64 a, .int .i64 b, .func (.func g) #[] cb] wk fun e w' => e = .returned (.tuple #[]) ∧ SB enc w0 blk off (Sort.insertionSort (ltOf cf) dk a b) w') :=
    fun a b dk wk h1 h2 h3 h4 => insSort_s a b enc cf g cb blk off cap d0 dk w0 wk eg hcmp R h1 h2 h3 h4 (by omega)
  have SYM : Aside _ := symMerge_s enc cf g cb blk off cap d0 w0 eg hcmp R hsz
  have S0 : Aside _ := S
  clear S hcmp R
  obtain ⟨n, hn⟩ : ∃ n, d.size = n := ⟨_, rfl⟩
  have hn9 : n < 1000000000 := by omega
  have HS : Hid (stableA (ltOf cf) d = passA (ltOf cf) n (n + 1) 20 (insB (ltOf cf) n (n + 1) 0 d)) := by show _ = _; unfold stableA; rw [hn]
  rw [hn]
  go_enter Try.func199, Try.ntmps199
  go_wp2
  go_loopg [7, 8] n (fun g1 va vb wr => ∃ (a : Nat) (dk : Array α), va = .int .i64 a ∧ vb = .int .i64 ((a : Int) + 20) ∧ a ≤ n ∧ n - a ≤ g1 ∧ dk.size = n ∧ Aside (SB enc w0 blk off dk wr) ∧ Hid (∃ f, n < a + f ∧ insB (ltOf cf) n f a dk = insB (ltOf cf) n (n + 1) 0 d))
  case atStart => exact ⟨0, d, rfl, by first | rfl | (congr 1; omega), by omega, by omega, hn, S0, ⟨n + 1, by omega, rfl⟩⟩
  case round =>
    clear S0
    obtain ⟨a, dk, rfl, rfl, han, hg1, hsk, S1, HI⟩ := hrel
    by_cases hc : a + 20 ≤ n
    · have hcz : (a : Int) + 20 ≤ (n : Int) := by omega
      have hi := INS.out a (a + 20) dk wr (by omega) S1.out (by omega) (by omega)
      rw [hsk, show ((a + 20 : Nat) : Int) = (a : Int) + 20 by omega] at hi
      have HI' : Hid (∃ f, n < a + 20 + f ∧ insB (ltOf cf) n f (a + 20) (Sort.insertionSort (ltOf cf) dk a (a + 20)) = insB (ltOf cf) n (n + 1) 0 d) := by
        obtain ⟨f, hf, he⟩ := HI.out
        cases f with
        | zero => omega
        | succ f => exact ⟨f, by omega, by rw [← he]; conv => rhs; unfold insB; rw [if_pos hc]⟩
      clear HI
      go_wp2_with (go_at_call 200; refine hi.mono ?_; rintro e w2 ⟨rfl, S2⟩)
      have S2' : Aside _ := S2
      clear S2
      go_roundg (n - (a + 20))
      case measure => omega
      case rel => exact ⟨a + 20, _, by first | rfl | go_num | (congr 1; omega), by first | rfl | go_num | (congr 1; omega), by omega, by omega, by rw [size_insertionSort]; exact hsk, S2', HI'⟩
    · have hcz : ¬ ((a : Int) + 20 ≤ (n : Int)) := by omega
      have hi := INS.out a n dk wr (by omega) S1.out (by omega) (by omega)
      rw [hsk] at hi
      obtain ⟨D, hD⟩ : ∃ D, D = insB (ltOf cf) n (n + 1) 0 d := ⟨_, rfl⟩
      have HD : Hid (Sort.insertionSort (ltOf cf) dk a n = D) := by
        obtain ⟨f, hf, he⟩ := HI.out
        cases f with
        | zero => omega
        | succ f => show _ = _; rw [hD, ← he]; conv => rhs; unfold insB; rw [if_neg hc]
      rw [← hD] at HS
      have sD : D.size = n := by rw [← HD.out, size_insertionSort]; exact hsk
      clear HI hD
      go_upto_region 7 with (go_at_call 200; refine hi.mono ?_; rintro e w2 ⟨rfl, S2⟩)
      have S2' : Aside (SB enc w0 blk off D w2) := by rw [← HD.out]; exact S2
      clear S2 S1 hi HD
      go_loopg [6] n (fun g2 vk wr => ∃ (k : Nat) (dk : Array α), vk = .int .i64 k ∧ 20 ≤ k ∧ n - k ≤ g2 ∧ dk.size = n ∧ Aside (SB enc w0 blk off dk wr) ∧ Hid (∃ f, n < k + f ∧ passA (ltOf cf) n f k dk = passA (ltOf cf) n (n + 1) 20 D))
      case atStart => exact ⟨20, D, by first | rfl | go_num, by omega, by omega, sD, S2', ⟨n + 1, by omega, rfl⟩⟩
      case round =>
        clear S2'
        obtain ⟨k, dk, rfl, hk20, hg2, hsk, S1, HP⟩ := hrel
        by_cases hkn : k < n
        · have hknz : (k : Int) < (n : Int) := by omega
          go_wp2
          go_loopg [7, 8] n (fun g3 va vb wr => ∃ (a : Nat) (dj : Array α), va = .int .i64 a ∧ vb = .int .i64 ((a : Int) + 2 * (k : Int)) ∧ a ≤ n ∧ n - a ≤ g3 ∧ dj.size = n ∧ Aside (SB enc w0 blk off dj wr) ∧ Hid (∃ f, n < a + f ∧ mrgB (ltOf cf) n k f a dj = mrgB (ltOf cf) n k (n + 1) 0 dk))
          case atStart => exact ⟨0, dk, rfl, by first | rfl | (congr 1; omega), by omega, by omega, hsk, S1, ⟨n + 1, by omega, rfl⟩⟩
          case round =>
            clear S1
            obtain ⟨a, dj, rfl, rfl, han, hg3, hsj, S1, HM⟩ := hrel
            by_cases hc : a + 2 * k ≤ n
            · have hcz : (a : Int) + 2 * (k : Int) ≤ (n : Int) := by omega
              have hi := SYM.out (2 * k) a (a + k) (a + 2 * k) dj wr (by omega) S1.out (by omega) (by omega) (by omega) (by omega)
              rw [hsj, show ((a + k : Nat) : Int) = (a : Int) + (k : Int) by omega, show ((a + 2 * k : Nat) : Int) = (a : Int) + 2 * (k : Int) by omega] at hi
              have HM' : Hid (∃ f, n < a + 2 * k + f ∧ mrgB (ltOf cf) n k f (a + 2 * k) (symM (ltOf cf) (2 * k) a (a + k) (a + 2 * k) dj) = mrgB (ltOf cf) n k (n + 1) 0 dk) := by
                obtain ⟨f, hf, he⟩ := HM.out
                cases f with
                | zero => omega
                | succ f => exact ⟨f, by omega, by rw [← he]; conv => rhs; unfold mrgB; rw [if_pos hc]⟩
              clear HM
              go_wp2_with (go_at_call 201; refine hi.mono ?_; rintro e w2 ⟨rfl, S2⟩)
              have S2' : Aside _ := S2
              clear S2
              go_roundg (n - (a + 2 * k))
              case measure => omega
              case rel => exact ⟨a + 2 * k, _, by first | rfl | go_num | (congr 1; omega), by first | rfl | go_num | (congr 1; omega), by omega, by omega, by rw [size_symM]; exact hsj, S2', HM'⟩
            · have hcz : ¬ ((a : Int) + 2 * (k : Int) ≤ (n : Int)) := by omega
              by_cases hm : a + k < n
              · have hmz : (a : Int) + (k : Int) < (n : Int) := by omega
                have hi := SYM.out (2 * k) a (a + k) n dj wr (by omega) S1.out (by omega) (by omega) (by omega) (by omega)
                rw [hsj, show ((a + k : Nat) : Int) = (a : Int) + (k : Int) by omega] at hi
                have HD : Hid (∃ f, n < 2 * k + f ∧ passA (ltOf cf) n f (2 * k) (symM (ltOf cf) (2 * k) a (a + k) n dj) = passA (ltOf cf) n (n + 1) 20 D) := by
                  obtain ⟨f, hf, he⟩ := HM.out
                  obtain ⟨f2, hf2, he2⟩ := HP.out
                  cases f with
                  | zero => omega
                  | succ f =>
                    cases f2 with
                    | zero => omega
                    | succ f2 => exact ⟨f2, by omega, by
                      rw [← he2]
                      conv => rhs; unfold passA; rw [if_pos hkn, ← he]; unfold mrgB; rw [if_neg hc, if_pos hm]⟩
                clear HM HP
                go_wp2_with (go_at_call 201; refine hi.mono ?_; rintro e w2 ⟨rfl, S2⟩)
                have S2' : Aside _ := S2
                clear S2
                go_roundg (n - 2 * k)
                case measure => omega
                case rel => exact ⟨2 * k, _, by first | rfl | go_num | (congr 1; omega), by omega, by omega, by rw [size_symM]; exact hsj, S2', HD⟩
              · have hmz : ¬ ((a : Int) + (k : Int) < (n : Int)) := by omega
                have HD : Hid (∃ f, n < 2 * k + f ∧ passA (ltOf cf) n f (2 * k) dj = passA (ltOf cf) n (n + 1) 20 D) := by
                  obtain ⟨f, hf, he⟩ := HM.out
                  obtain ⟨f2, hf2, he2⟩ := HP.out
                  cases f with
                  | zero => omega
                  | succ f =>
                    cases f2 with
                    | zero => omega
                    | succ f2 => exact ⟨f2, by omega, by
                      rw [← he2]
                      conv => rhs; unfold passA; rw [if_pos hkn, ← he]; unfold mrgB; rw [if_neg hc, if_neg hm]⟩
                clear HM HP
                go_wp2
                go_roundg (n - 2 * k)
                case measure => omega
                case rel => exact ⟨2 * k, dj, by first | rfl | go_num | (congr 1; omega), by omega, by omega, hsj, S1, HD⟩
        · have hknz : ¬ ((k : Int) < (n : Int)) := by omega
          have HF : Hid (stableA (ltOf cf) d = dk) := by
            obtain ⟨f, hf, he⟩ := HP.out
            show _ = _
            rw [HS.out, ← he]
            cases f with
            | zero => rfl
            | succ f => unfold passA; rw [if_neg hkn]
          go_wp2
          ((try simp only [Exit.inBlock, Exit.then]); first | refine bodyPost_end (results_none rfl _ _ _) rfl ?_ | refine bodyPost_ret (results_none rfl _ _ _) rfl ?_)
          exact ⟨rfl, by rw [HF.out]; exact S1.out⟩
/-- slices.SortStableFunc OF A ROW OF ITS OWN -/
theorem sortStable_s {α : Type} [Inhabited α] (enc : α → Value) (cf : α → α → Int) (g : Nat) (cb : Array Value) (blk off cap : Nat) (d : Array α) (w : World) (eg : ∀ args w, (callFunc g args).run Try.prog w = .ok (.enter g args) w) (hcmp : CmpB Try.prog g cb enc cf blk off d.size w) (R : Row1 enc w blk off d) (hsz : d.size < 1000000000) :
    Calls Try.prog 197 #[.slice (some ⟨blk, off, none⟩) d.size cap, .func (.func g) #[] cb] w fun e w' => e = .returned (.tuple #[]) ∧ SB enc w blk off (stableA (ltOf cf) d) w' := by
  have h := stable_s enc cf g cb blk off cap d d w w eg hcmp R rfl (SB.start R.hH) hsz
  clear hcmp R eg
  go_enter Try.func197, Try.ntmps197
  go_wp2_with (go_at_call 199; refine h.mono ?_; rintro e w2 ⟨rfl, S2⟩)
  ((try simp only [Exit.inBlock, Exit.then]); first | refine bodyPost_end (results_none rfl _ _ _) rfl ?_ | refine bodyPost_ret (results_none rfl _ _ _) rfl ?_)
  exact ⟨rfl, S2⟩
end Go.Proofs.Ytppmjbnhghaffaa
