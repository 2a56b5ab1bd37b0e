/- Texts put together: SortPK. No condition. -/
import Derived.Test.YtppmjbnhghaffaaRsgkvyauzkl
namespace Go.Proofs.Ytppmjbnhghaffaa
open Go.RowKit Go.Lib Go.Sort

set_option maxHeartbeats 8000000 in
set_option maxRecDepth 100000 in
theorem stable_p (cf : Pe → Pe → Int) (g : Nat) (cb : Array Value) (base blk cap : Nat) (d : Array Pe) (w0 w : World) (eg : ∀ args w, (callFunc g args).run Try.prog w = .ok (.enter g args) w) (hcmp : CmpP Try.prog g cb cf) (S : SP base w0 blk cap d w) (hsz : d.size < 1000000000) :
    Calls Try.prog 141 #[.slice (some ⟨blk, 0, none⟩) d.size cap, .int .i64 d.size, .func (.func g) #[] cb] w fun e w' => e = .returned (.tuple #[]) ∧ SP base w0 blk cap (stableA (ltOf cf) d) w' := by
  have INS : Aside (∀ (a b : Nat) (dk : Array Pe) (wk : World), d.size = dk.size → SP base w0 blk cap dk wk → a ≤ b → b ≤ dk.size → Calls Try.prog 165 #[.slice (some ⟨blk, 0, none⟩) dk.size cap, .int .i64 a, .int .i64 b, .func (.func g) #[] cb] wk fun e w' => e = .returned (.tuple #[]) ∧ SP base w0 blk cap (Sort.insertionSort (ltOf cf) dk a b) w') :=
    fun a b dk wk h1 h2 h3 h4 => insSort_p a b cf g cb base blk cap dk w0 wk eg hcmp h2 h3 h4 (by omega)
  have SYM : Aside _ := symMerge_p cf g cb base blk cap d.size w0 eg hcmp hsz
  have S0 : Aside _ := S
  clear S hcmp
  obtain ⟨n, hn⟩ : ∃ n, d.size = n := ⟨_, rfl⟩
  have hn9 : n < 1000000000 := by omega
  have HS : Hid (stableA (ltOf cf) d = passA (ltOf cf) n (n + 1) 20 (insB (ltOf cf) n (n + 1) 0 d)) := by show _ = _; unfold stableA; rw [hn]
  rw [hn]
  go_enter Try.func141, Try.ntmps141
  go_wp2
  go_loopg [7, 8] n (fun g1 va vb wr => ∃ (a : Nat) (dk : Array Pe), va = .int .i64 a ∧ vb = .int .i64 ((a : Int) + 20) ∧ a ≤ n ∧ n - a ≤ g1 ∧ dk.size = n ∧ Aside (SP base w0 blk cap dk wr) ∧ Hid (∃ f, n < a + f ∧ insB (ltOf cf) n f a dk = insB (ltOf cf) n (n + 1) 0 d))
  case atStart => exact ⟨0, d, rfl, by first | rfl | (congr 1; omega), by omega, by omega, hn, S0, ⟨n + 1, by omega, rfl⟩⟩
  case round =>
    clear S0
    obtain ⟨a, dk, rfl, rfl, han, hg1, hsk, S1, HI⟩ := hrel
    by_cases hc : a + 20 ≤ n
    · have hcz : (a : Int) + 20 ≤ (n : Int) := by omega
      have hi := INS.out a (a + 20) dk wr (by omega) S1.out (by omega) (by omega)
      rw [hsk, show ((a + 20 : Nat) : Int) = (a : Int) + 20 by omega] at hi
      have HI' : Hid (∃ f, n < a + 20 + f ∧ insB (ltOf cf) n f (a + 20) (Sort.insertionSort (ltOf cf) dk a (a + 20)) = insB (ltOf cf) n (n + 1) 0 d) := by
        obtain ⟨f, hf, he⟩ := HI.out
        cases f with
        | zero => omega
        | succ f => exact ⟨f, by omega, by rw [← he]; conv => rhs; unfold insB; rw [if_pos hc]⟩
      clear HI
      go_wp2_with (go_at_call 165; refine hi.mono ?_; rintro e w2 ⟨rfl, S2⟩)
      have S2' : Aside _ := S2
      clear S2
      go_roundg (n - (a + 20))
      case measure => omega
      case rel => exact ⟨a + 20, _, by first | rfl | go_num | (congr 1; omega), by first | rfl | go_num | (congr 1; omega), by omega, by omega, by rw [size_insertionSort]; exact hsk, S2', HI'⟩
    · have hcz : ¬ ((a : Int) + 20 ≤ (n : Int)) := by omega
      have hi := INS.out a n dk wr (by omega) S1.out (by omega) (by omega)
      rw [hsk] at hi
      obtain ⟨D, hD⟩ : ∃ D, D = insB (ltOf cf) n (n + 1) 0 d := ⟨_, rfl⟩
      have HD : Hid (Sort.insertionSort (ltOf cf) dk a n = D) := by
        obtain ⟨f, hf, he⟩ := HI.out
        cases f with
        | zero => omega
        | succ f => show _ = _; rw [hD, ← he]; conv => rhs; unfold insB; rw [if_neg hc]
      rw [← hD] at HS
      have sD : D.size = n := by rw [← HD.out, size_insertionSort]; exact hsk
      clear HI hD
      go_upto_region 7 with (go_at_call 165; refine hi.mono ?_; rintro e w2 ⟨rfl, S2⟩)
      have S2' : Aside (SP base w0 blk cap D w2) := by rw [← HD.out]; exact S2
      clear S2 S1 hi HD
      go_loopg [6] n (fun g2 vk wr => ∃ (k : Nat) (dk : Array Pe), vk = .int .i64 k ∧ 20 ≤ k ∧ n - k ≤ g2 ∧ dk.size = n ∧ Aside (SP base w0 blk cap dk wr) ∧ Hid (∃ f, n < k + f ∧ passA (ltOf cf) n f k dk = passA (ltOf cf) n (n + 1) 20 D))
      case atStart => exact ⟨20, D, by first | rfl | go_num, by omega, by omega, sD, S2', ⟨n + 1, by omega, rfl⟩⟩
      case round =>
        clear S2'
        obtain ⟨k, dk, rfl, hk20, hg2, hsk, S1, HP⟩ := hrel
        by_cases hkn : k < n
        · have hknz : (k : Int) < (n : Int) := by omega
          go_wp2
          go_loopg [7, 8] n (fun g3 va vb wr => ∃ (a : Nat) (dj : Array Pe), va = .int .i64 a ∧ vb = .int .i64 ((a : Int) + 2 * (k : Int)) ∧ a ≤ n ∧ n - a ≤ g3 ∧ dj.size = n ∧ Aside (SP base w0 blk cap dj wr) ∧ Hid (∃ f, n < a + f ∧ mrgB (ltOf cf) n k f a dj = mrgB (ltOf cf) n k (n + 1) 0 dk))
          case atStart => exact ⟨0, dk, rfl, by first | rfl | (congr 1; omega), by omega, by omega, hsk, S1, ⟨n + 1, by omega, rfl⟩⟩
          case round =>
            clear S1
            obtain ⟨a, dj, rfl, rfl, han, hg3, hsj, S1, HM⟩ := hrel
            by_cases hc : a + 2 * k ≤ n
            · have hcz : (a : Int) + 2 * (k : Int) ≤ (n : Int) := by omega
              have hi := SYM.out (2 * k) a (a + k) (a + 2 * k) dj wr (by omega) S1.out (by omega) (by omega) (by omega) (by omega)
              rw [hsj, show ((a + k : Nat) : Int) = (a : Int) + (k : Int) by omega, show ((a + 2 * k : Nat) : Int) = (a : Int) + 2 * (k : Int) by omega] at hi
              have HM' : Hid (∃ f, n < a + 2 * k + f ∧ mrgB (ltOf cf) n k f (a + 2 * k) (symM (ltOf cf) (2 * k) a (a + k) (a + 2 * k) dj) = mrgB (ltOf cf) n k (n + 1) 0 dk) := by
                obtain ⟨f, hf, he⟩ := HM.out
                cases f with
                | zero => omega
                | succ f => exact ⟨f, by omega, by rw [← he]; conv => rhs; unfold mrgB; rw [if_pos hc]⟩
              clear HM
              go_wp2_with (go_at_call 166; refine hi.mono ?_; rintro e w2 ⟨rfl, S2⟩)
              have S2' : Aside _ := S2
              clear S2
              go_roundg (n - (a + 2 * k))
              case measure => omega
              case rel => exact ⟨a + 2 * k, _, by first | rfl | go_num | (congr 1; omega), by first | rfl | go_num | (congr 1; omega), by omega, by omega, by rw [size_symM]; exact hsj, S2', HM'⟩
            · have hcz : ¬ ((a : Int) + 2 * (k : Int) ≤ (n : Int)) := by omega
              by_cases hm : a + k < n
              · have hmz : (a : Int) + (k : Int) < (n : Int) := by omega
                have hi := SYM.out (2 * k) a (a + k) n dj wr (by omega) S1.out (by omega) (by omega) (by omega) (by omega)
                rw [hsj, show ((a + k : Nat) : Int) = (a : Int) + (k : Int) by omega] at hi
                have HD : Hid (∃ f, n < 2 * k + f ∧ passA (ltOf cf) n f (2 * k) (symM (ltOf cf) (2 * k) a (a + k) n dj) = passA (ltOf cf) n (n + 1) 20 D) := by
                  obtain ⟨f, hf, he⟩ := HM.out
                  obtain ⟨f2, hf2, he2⟩ := HP.out
                  cases f with
                  | zero => omega
                  | succ f =>
                    cases f2 with
                    | zero => omega
                    | succ f2 => exact ⟨f2, by omega, by
                      rw [← he2]
                      conv => rhs; unfold passA; rw [if_pos hkn, ← he]; unfold mrgB; rw [if_neg hc, if_pos hm]⟩
                clear HM HP
                go_wp2_with (go_at_call 166; refine hi.mono ?_; rintro e w2 ⟨rfl, S2⟩)
                have S2' : Aside _ := S2
                clear S2
                go_roundg (n - 2 * k)
                case measure => omega
                case rel => exact ⟨2 * k, _, by first | rfl | go_num | (congr 1; omega), by omega, by omega, by rw [size_symM]; exact hsj, S2', HD⟩
              · have hmz : ¬ ((a : Int) + (k : Int) < (n : Int)) := by omega
                have HD : Hid (∃ f, n < 2 * k + f ∧ passA (ltOf cf) n f (2 * k) dj = passA (ltOf cf) n (n + 1) 20 D) := by
                  obtain ⟨f, hf, he⟩ := HM.out
                  obtain ⟨f2, hf2, he2⟩ := HP.out
                  cases f with
                  | zero => omega
                  | succ f =>
                    cases f2 with
                    | zero => omega
                    | succ f2 => exact ⟨f2, by omega, by
                      rw [← he2]
                      conv => rhs; unfold passA; rw [if_pos hkn, ← he]; unfold mrgB; rw [if_neg hc, if_neg hm]⟩
                clear HM HP
                go_wp2
                go_roundg (n - 2 * k)
                case measure => omega
                case rel => exact ⟨2 * k, dj, by first | rfl | go_num | (congr 1; omega), by omega, by omega, hsj, S1, HD⟩
        · have hknz : ¬ ((k : Int) < (n : Int)) := by omega
          have HF : Hid (stableA (ltOf cf) d = dk) := by
            obtain ⟨f, hf, he⟩ := HP.out
            show _ = _
            rw [HS.out, ← he]
            cases f with
            | zero => rfl
            | succ f => unfold passA; rw [if_neg hkn]
          go_wp2
          ((try simp only [Exit.inBlock, Exit.then]); first | refine bodyPost_end (results_none rfl _ _ _) rfl ?_ | refine bodyPost_ret (results_none rfl _ _ _) rfl ?_)
          exact ⟨rfl, by rw [HF.out]; exact S1.out⟩
/-- slices.SortStableFunc OF A ROW OF ITS OWN -/
theorem sortStable_p (cf : Pe → Pe → Int) (g : Nat) (cb : Array Value) (base blk cap : Nat) (d : Array Pe) (w0 w : World) (eg : ∀ args w, (callFunc g args).run Try.prog w = .ok (.enter g args) w) (hcmp : CmpP Try.prog g cb cf) (S : SP base w0 blk cap d w) (hsz : d.size < 1000000000) :
    Calls Try.prog 106 #[.slice (some ⟨blk, 0, none⟩) d.size cap, .func (.func g) #[] cb] w fun e w' => e = .returned (.tuple #[]) ∧ SP base w0 blk cap (stableA (ltOf cf) d) w' := by
  have h := stable_p cf g cb base blk cap d w0 w eg hcmp S hsz
  clear hcmp eg S
  go_enter Try.func106, Try.ntmps106
  go_wp2_with (go_at_call 141; refine h.mono ?_; rintro e w2 ⟨rfl, S2⟩)
  ((try simp only [Exit.inBlock, Exit.then]); first | refine bodyPost_end (results_none rfl _ _ _) rfl ?_ | refine bodyPost_ret (results_none rfl _ _ _) rfl ?_)
  exact ⟨rfl, S2⟩
end Go.Proofs.Ytppmjbnhghaffaa
