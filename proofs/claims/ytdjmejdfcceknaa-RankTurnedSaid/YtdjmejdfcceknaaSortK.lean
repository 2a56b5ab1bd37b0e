/- slices.SortStableFunc at ints: the row holds the stable order. Conditions: an order that is weak and lays blocks at most. -/
import Derived.Test.YtdjmejdfcceknaaSortJD
namespace Go.Proofs.Ytdjmejdfcceknaa
open Go.Shelf Go.RowKit Go.Lib Go.Sort

theorem size_insInner {α : Type} [Inhabited α] (lt : α → α → Bool) (a : Nat) : ∀ (j : Nat) (d : Array α), (insInner lt a j d).size = d.size
  | 0, _ => rfl
  | j + 1, d => by unfold insInner; split
                   · rw [size_insInner lt a j, size_swp]
                   · rfl
theorem size_insOuter {α : Type} [Inhabited α] (lt : α → α → Bool) (a b : Nat) : ∀ (n i : Nat) (d : Array α), b - i ≤ n → (insOuter lt a b i d).size = d.size
  | 0, i, d, h => by unfold insOuter; rw [if_neg (by omega)]
  | n + 1, i, d, h => by
    unfold insOuter; split
    · rw [size_insOuter lt a b n (i + 1) _ (by omega), size_insInner]
    · rfl
theorem size_insertionSort {α : Type} [Inhabited α] (lt : α → α → Bool) (d : Array α) (a b : Nat) : (Sort.insertionSort lt d a b).size = d.size := size_insOuter lt a b _ _ d (Nat.le_refl _)
set_option maxHeartbeats 8000000 in
set_option maxRecDepth 100000 in
theorem stable_s {α : Type} [Inhabited α] (enc : α → Value) (cf : α → α → Int) (g : Nat) (cb : Array Value) (blk off cap : Nat) (d0 d : Array α) (w0 w : World) (eg : ∀ args w, (callFunc g args).run Try.prog w = .ok (.enter g args) w) (hcmp : CmpB Try.prog g cb enc cf blk off d0.size w0) (R : Row1 enc w0 blk off d0) (hs : d0.size = d.size) (S : SB enc w0 blk off d w) (hsz : d0.size < 1000000000) :
    Calls Try.prog 116 #[.slice (some ⟨blk, off, none⟩) d.size cap, .int .i64 d.size, .func (.func g) #[] cb] w fun e w' => e = .returned (.tuple #[]) ∧ SB enc w0 blk off (stableA (ltOf cf) d) w' := by
  have INS : Aside (∀ (a b : Nat) (dk : Array α) (wk : World), d0.size = dk.size → SB enc w0 blk off dk wk → a ≤ b → b ≤ dk.size → Calls Try.prog 132 #[.slice (some ⟨blk, off, none⟩) dk.size cap, .int .i64 a, .int .i64 b, .func (.func g) #[] cb] wk fun e w' => e = .returned (.tuple #[]) ∧ SB enc w0 blk off (Sort.insertionSort (ltOf cf) dk a b) w') :=
    fun a b dk wk h1 h2 h3 h4 => insSort_s a b enc cf g cb blk off cap d0 dk w0 wk eg hcmp R h1 h2 h3 h4 (by omega)
  have SYM : Aside _ := symMerge_s enc cf g cb blk off cap d0 w0 eg hcmp R hsz
  have S0 : Aside _ := S
  clear S hcmp R
  obtain ⟨n, hn⟩ : ∃ n, d.size = n := ⟨_, rfl⟩
  have hn9 : n < 1000000000 := by omega
  have HS : Hid (stableA (ltOf cf) d = passA (ltOf cf) n (n + 1) 20 (insB (ltOf cf) n (n + 1) 0 d)) := by show _ = _; unfold stableA; rw [hn]
  rw [hn]
  go_enter Try.func116, Try.ntmps116
  go_wp2
  go_loopg [7, 8] n (fun g1 va vb wr => ∃ (a : Nat) (dk : Array α), va = .int .i64 a ∧ vb = .int .i64 ((a : Int) + 20) ∧ a ≤ n ∧ n - a ≤ g1 ∧ dk.size = n ∧ Aside (SB enc w0 blk off dk wr) ∧ Hid (∃ f, n < a + f ∧ insB (ltOf cf) n f a dk = insB (ltOf cf) n (n + 1) 0 d))
  case atStart => exact ⟨0, d, rfl, by first | rfl | (congr 1; omega), by omega, by omega, hn, S0, ⟨n + 1, by omega, rfl⟩⟩
  case round =>
    clear S0
    obtain ⟨a, dk, rfl, rfl, han, hg1, hsk, S1, HI⟩ := hrel
    by_cases hc : a + 20 ≤ n
    · have hcz : (a : Int) + 20 ≤ (n : Int) := by omega
      have hi := INS.out a (a + 20) dk wr (by omega) S1.out (by omega) (by omega)
      rw [hsk, show ((a + 20 : Nat) : Int) = (a : Int) + 20 by omega] at hi
      have HI' : Hid (∃ f, n < a + 20 + f ∧ insB (ltOf cf) n f (a + 20) (Sort.insertionSort (ltOf cf) dk a (a + 20)) = insB (ltOf cf) n (n + 1) 0 d) := by
        obtain ⟨f, hf, he⟩ := HI.out
        cases f with
        | zero => omega
        | succ f => exact ⟨f, by omega, by rw [← he]; conv => rhs; unfold insB; rw [if_pos hc]⟩
      clear HI
      go_wp2_with (go_at_call 132; refine hi.mono ?_; rintro e w2 ⟨rfl, S2⟩)
      have S2' : Aside _ := S2
      clear S2
      go_roundg (n - (a + 20))
      case measure => omega
      case rel => exact ⟨a + 20, _, by first | rfl | go_num | (congr 1; omega), by first | rfl | go_num | (congr 1; omega), by omega, by omega, by rw [size_insertionSort]; exact hsk, S2', HI'⟩
    · have hcz : ¬ ((a : Int) + 20 ≤ (n : Int)) := by omega
      have hi := INS.out a n dk wr (by omega) S1.out (by omega) (by omega)
      rw [hsk] at hi
      obtain ⟨D, hD⟩ : ∃ D, D = insB (ltOf cf) n (n + 1) 0 d := ⟨_, rfl⟩
      have HD : Hid (Sort.insertionSort (ltOf cf) dk a n = D) := by
        obtain ⟨f, hf, he⟩ := HI.out
        cases f with
        | zero => omega
        | succ f => show _ = _; rw [hD, ← he]; conv => rhs; unfold insB; rw [if_neg hc]
      rw [← hD] at HS
      have sD : D.size = n := by rw [← HD.out, size_insertionSort]; exact hsk
      clear HI hD
      go_upto_region 7 with (go_at_call 132; refine hi.mono ?_; rintro e w2 ⟨rfl, S2⟩)
      have S2' : Aside (SB enc w0 blk off D w2) := by rw [← HD.out]; exact S2
      clear S2 S1 hi HD
      go_loopg [6] n (fun g2 vk wr => ∃ (k : Nat) (dk : Array α), vk = .int .i64 k ∧ 20 ≤ k ∧ n - k ≤ g2 ∧ dk.size = n ∧ Aside (SB enc w0 blk off dk wr) ∧ Hid (∃ f, n < k + f ∧ passA (ltOf cf) n f k dk = passA (ltOf cf) n (n + 1) 20 D))
      case atStart => exact ⟨20, D, by first | rfl | go_num, by omega, by omega, sD, S2', ⟨n + 1, by omega, rfl⟩⟩
      case round =>
        clear S2'
        obtain ⟨k, dk, rfl, hk20, hg2, hsk, S1, HP⟩ := hrel
        by_cases hkn : k < n
        · have hknz : (k : Int) < (n : Int) := by omega
          go_wp2
          go_loopg [7, 8] n (fun g3 va vb wr => ∃ (a : Nat) (dj : Array α), va = .int .i64 a ∧ vb = .int .i64 ((a : Int) + 2 * (k : Int)) ∧ a ≤ n ∧ n - a ≤ g3 ∧ dj.size = n ∧ Aside (SB enc w0 blk off dj wr) ∧ Hid (∃ f, n < a + f ∧ mrgB (ltOf cf) n k f a dj = mrgB (ltOf cf) n k (n + 1) 0 dk))
          case atStart => exact ⟨0, dk, rfl, by first | rfl | (congr 1; omega), by omega, by omega, hsk, S1, ⟨n + 1, by omega, rfl⟩⟩
          case round =>
            clear S1
            obtain ⟨a, dj, rfl, rfl, han, hg3, hsj, S1, HM⟩ := hrel
            by_cases hc : a + 2 * k ≤ n
            · have hcz : (a : Int) + 2 * (k : Int) ≤ (n : Int) := by omega
              have hi := SYM.out (2 * k) a (a + k) (a + 2 * k) dj wr (by omega) S1.out (by omega) (by omega) (by omega) (by omega)
              rw [hsj, show ((a + k : Nat) : Int) = (a : Int) + (k : Int) by omega, show ((a + 2 * k : Nat) : Int) = (a : Int) + 2 * (k : Int) by omega] at hi
              have HM' : Hid (∃ f, n < a + 2 * k + f ∧ mrgB (ltOf cf) n k f (a + 2 * k) (symM (ltOf cf) (2 * k) a (a + k) (a + 2 * k) dj) = mrgB (ltOf cf) n k (n + 1) 0 dk) := by
                obtain ⟨f, hf, he⟩ := HM.out
                cases f with
                | zero => omega
                | succ f => exact ⟨f, by omega, by rw [← he]; conv => rhs; unfold mrgB; rw [if_pos hc]⟩
              clear HM
              go_wp2_with (go_at_call 133; refine hi.mono ?_; rintro e w2 ⟨rfl, S2⟩)
              have S2' : Aside _ := S2
              clear S2
              go_roundg (n - (a + 2 * k))
              case measure => omega
              case rel => exact ⟨a + 2 * k, _, by first | rfl | go_num | (congr 1; omega), by first | rfl | go_num | (congr 1; omega), by omega, by omega, by rw [size_symM]; exact hsj, S2', HM'⟩
            · have hcz : ¬ ((a : Int) + 2 * (k : Int) ≤ (n : Int)) := by omega
              by_cases hm : a + k < n
              · have hmz : (a : Int) + (k : Int) < (n : Int) := by omega
                have hi := SYM.out (2 * k) a (a + k) n dj wr (by omega) S1.out (by omega) (by omega) (by omega) (by omega)
                rw [hsj, show ((a + k : Nat) : Int) = (a : Int) + (k : Int) by omega] at hi
                have HD : Hid (∃ f, n < 2 * k + f ∧ passA (ltOf cf) n f (2 * k) (symM (ltOf cf) (2 * k) a (a + k) n dj) = passA (ltOf cf) n (n + 1) 20 D) := by
                  obtain ⟨f, hf, he⟩ := HM.out
                  obtain ⟨f2, hf2, he2⟩ := HP.out
                  cases f with
                  | zero => omega
                  | succ f =>
                    cases f2 with
                    | zero => omega
                    | succ f2 => exact ⟨f2, by omega, by
                      rw [← he2]
                      conv => rhs; unfold passA; rw [if_pos hkn, ← he]; unfold mrgB; rw [if_neg hc, if_pos hm]⟩
                clear HM HP
                go_wp2_with (go_at_call 133; refine hi.mono ?_; rintro e w2 ⟨rfl, S2⟩)
                have S2' : Aside _ := S2
                clear S2
                go_roundg (n - 2 * k)
                case measure => omega
                case rel => exact ⟨2 * k, _, by first | rfl | go_num | (congr 1; omega), by omega, by omega, by rw [size_symM]; exact hsj, S2', HD⟩
              · have hmz : ¬ ((a : Int) + (k : Int) < (n : Int)) := by omega
                have HD : Hid (∃ f, n < 2 * k + f ∧ passA (ltOf cf) n f (2 * k) dj = passA (ltOf cf) n (n + 1) 20 D) := by
                  obtain ⟨f, hf, he⟩ := HM.out
                  obtain ⟨f2, hf2, he2⟩ := HP.out
                  cases f with
                  | zero => omega
                  | succ f =>
                    cases f2 with
                    | zero => omega
                    | succ f2 => exact ⟨f2, by omega, by
                      rw [← he2]
                      conv => rhs; unfold passA; rw [if_pos hkn, ← he]; unfold mrgB; rw [if_neg hc, if_neg hm]⟩
                clear HM HP
                go_wp2
                go_roundg (n - 2 * k)
                case measure => omega
                case rel => exact ⟨2 * k, dj, by first | rfl | go_num | (congr 1; omega), by omega, by omega, hsj, S1, HD⟩
        · have hknz : ¬ ((k : Int) < (n : Int)) := by omega
          have HF : Hid (stableA (ltOf cf) d = dk) := by
            obtain ⟨f, hf, he⟩ := HP.out
            show _ = _
            rw [HS.out, ← he]
            cases f with
            | zero => rfl
            | succ f => unfold passA; rw [if_neg hkn]
          go_wp2
          ((try simp only [Exit.inBlock, Exit.then]); first | refine bodyPost_end (results_none rfl _ _ _) rfl ?_ | refine bodyPost_ret (results_none rfl _ _ _) rfl ?_)
          exact ⟨rfl, by rw [HF.out]; exact S1.out⟩
/-- slices.SortStableFunc OF A ROW OF ITS OWN -/
theorem sortStable_s {α : Type} [Inhabited α] (enc : α → Value) (cf : α → α → Int) (g : Nat) (cb : Array Value) (blk off cap : Nat) (d : Array α) (w : World) (eg : ∀ args w, (callFunc g args).run Try.prog w = .ok (.enter g args) w) (hcmp : CmpB Try.prog g cb enc cf blk off d.size w) (R : Row1 enc w blk off d) (hsz : d.size < 1000000000) :
    Calls Try.prog 90 #[.slice (some ⟨blk, off, none⟩) d.size cap, .func (.func g) #[] cb] w fun e w' => e = .returned (.tuple #[]) ∧ SB enc w blk off (stableA (ltOf cf) d) w' := by
  have h := stable_s enc cf g cb blk off cap d d w w eg hcmp R rfl (SB.start R.hH) hsz
  clear hcmp R eg
  go_enter Try.func90, Try.ntmps90
  go_wp2_with (go_at_call 116; refine h.mono ?_; rintro e w2 ⟨rfl, S2⟩)
  ((try simp only [Exit.inBlock, Exit.then]); first | refine bodyPost_end (results_none rfl _ _ _) rfl ?_ | refine bodyPost_ret (results_none rfl _ _ _) rfl ?_)
  exact ⟨rfl, S2⟩
end Go.Proofs.Ytdjmejdfcceknaa
