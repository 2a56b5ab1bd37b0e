/- Texts put together: SortPB. No condition. -/
import Derived.Test.YtppmjbnhghaffaaRunkbqsheoc
import Derived.WalkSpells
import Derived.WalkLawsBesides
import Derived.Deep.DeepCutAuto
namespace Go.Proofs.Ytppmjbnhghaffaa
open Go.RowKit Go.Lib Go.Sort
set_option linter.unusedSimpArgs false
set_option linter.unusedVariables false

set_option maxHeartbeats 16000000 in
set_option maxRecDepth 100000 in
theorem symMergeB_p (cf : Pe → Pe → Int) (g : Nat) (cb : Array Value) (base blk cap : Nat) (n0 : Nat) (w0 : World) (eg : ∀ args w, (callFunc g args).run Try.prog w = .ok (.enter g args) w) (hcmp : CmpP Try.prog g cb cf) (hsz : n0 < 1000000000) (f a m b : Nat) (d : Array Pe) (w : World) (IH : ∀ (a m b : Nat) (d : Array Pe) (w : World), n0 = d.size → SP base w0 blk cap d w → a < m → m < b → b ≤ d.size → b - a ≤ f →
    Calls Try.prog 166 #[.slice (some ⟨blk, 0, none⟩) d.size cap, .int .i64 a, .int .i64 m, .int .i64 b, .func (.func g) #[] cb] w fun e w' => e = .returned (.tuple #[]) ∧ SP base w0 blk cap (symM (ltOf cf) f a m b d) w')
    (hs : n0 = d.size) (S : SP base w0 blk cap d w) (h1 : a < m) (h2 : m < b) (h3 : b ≤ d.size) (h4 : b - a ≤ f + 1) (c1 : ¬ m - a = 1) (c2 : b - m = 1) :
    Calls Try.prog 166 #[.slice (some ⟨blk, 0, none⟩) d.size cap, .int .i64 a, .int .i64 m, .int .i64 b, .func (.func g) #[] cb] w fun e w' => e = .returned (.tuple #[]) ∧ SP base w0 blk cap (symM (ltOf cf) (f + 1) a m b d) w' := by
  have mixed : Try.prog.follows .mixedOrders = true := by kernel_rfl
  have HC : Aside _ := hcmp
  have S0 : Aside _ := S
  have IH' : Aside _ := IH
  clear S hcmp IH
  have c1z : ¬ ((m : Int) - (a : Int) = 1) := by omega
  have c1b : ((m : Int) - (a : Int) == 1) = false := beq_eq_false_iff_ne.2 c1z
  have c2z : (b : Int) - (m : Int) = 1 := by omega
  have c2b : ((b : Int) - (m : Int) == 1) = true := beq_iff_eq.2 c2z
  go_enter Try.func166, Try.ntmps166
  go_wp2
  go_loopg [14, 15] (m - a) (fun g1 vi vj wr => ∃ (i j : Nat), vi = .int .i64 i ∧ vj = .int .i64 j ∧ a ≤ i ∧ i ≤ j ∧ j ≤ m ∧ j - i ≤ g1 ∧ Aside (SP base w0 blk cap d wr) ∧ Hid (∃ q, j - i ≤ q ∧ bsr (fun h => !(ltOf cf) d[m]! d[h]!) q i j = bsr (fun h => !(ltOf cf) d[m]! d[h]!) (b - a) (a) (m)))
  case atStart => exact ⟨a, m, rfl, rfl, Nat.le_refl _, by omega, Nat.le_refl _, Nat.le_refl _, S0, ⟨_, by omega, rfl⟩⟩
  case round =>
    clear S0
    obtain ⟨i, j, rfl, rfl, hlo, hij, hhi, hg1, S1, HB⟩ := hrel
    by_cases hlt : i < j
    · have hltz : (i : Int) < (j : Int) := by omega
      obtain ⟨h, hh⟩ : ∃ h, h = (i + j) / 2 := ⟨_, rfl⟩
      have zh : ((i : Int) + (j : Int)) / 2 = (h : Int) := by omega
      have h5 : i ≤ h := by omega
      have h6 : h < j := by omega
      have HH : Hid (h = (i + j) / 2) := hh
      clear hh
      cases hlv : (ltOf cf) d[m]! d[h]! with
      | true =>
        as_aux_lemma =>
          have HB' : Hid (∃ q, h - i ≤ q ∧ bsr (fun h => !(ltOf cf) d[m]! d[h]!) q i h = bsr (fun h => !(ltOf cf) d[m]! d[h]!) (b - a) (a) (m)) := by
            obtain ⟨q, hq, hb⟩ := HB.out
            cases q with
            | zero => omega
            | succ q => exact ⟨q, by omega, by rw [← hb]; (conv => rhs; unfold bsr; rw [if_pos hlt, ← HH.out]); exact (if_neg (by simp [hlv])).symm⟩
          clear HB
          obtain ⟨iN8, hiN8⟩ : ∃ q, q = m := ⟨_, rfl⟩
          obtain ⟨jN8, hjN8⟩ : ∃ q, q = h := ⟨_, rfl⟩
          have ea8 : ((m : Int)).toNat = iN8 := by omega
          have pa8 : (0 : Int) ≤ (m : Int) := by omega
          have ba8 : (m : Int) < (d.size : Int) := by omega
          have ra8 : IntKind.i64.wrap ((m : Int)) = (m : Int) := by rw [IntKind.wrap_i64]; omega
          have ec8 : ((h : Int)).toNat = jN8 := by omega
          have pc8 : (0 : Int) ≤ (h : Int) := by omega
          have bc8 : (h : Int) < (d.size : Int) := by omega
          have rc8 : IntKind.i64.wrap ((h : Int)) = (h : Int) := by rw [IntKind.wrap_i64]; omega
          obtain ⟨x8, hx8⟩ : ∃ x, x = d[m]! := ⟨_, rfl⟩
          obtain ⟨y8, hy8⟩ : ∃ x, x = d[h]! := ⟨_, rfl⟩
          have KA8 : ∀ Y, PeIn (Go.Proofs.Ytppmjbnhghaffaa.ext wr Y) blk (iN8 * 10) x8 := fun Y => by rw [hiN8, hx8]; exact S1.out.cl (by omega) Y
          have KB8 : ∀ Y, PeIn (Go.Proofs.Ytppmjbnhghaffaa.ext wr Y) blk (jN8 * 10) y8 := fun Y => by rw [hjN8, hy8]; exact S1.out.cl (by omega) Y
          have la0 := fun y => (KA8 y).1; have la1 := fun y => (KA8 y).2.1; have la2 := fun y => (KA8 y).2.2.1; have la3 := fun y => (KA8 y).2.2.2.1; have la4 := fun y => (KA8 y).2.2.2.2.1; have la5 := fun y => (KA8 y).2.2.2.2.2.1; have la6 := fun y => (KA8 y).2.2.2.2.2.2.1; have la7 := fun y => (KA8 y).2.2.2.2.2.2.2.1; have la8 := fun y => (KA8 y).2.2.2.2.2.2.2.2.1; have la9 := fun y => (KA8 y).2.2.2.2.2.2.2.2.2
          have lb0 := fun y => (KB8 y).1; have lb1 := fun y => (KB8 y).2.1; have lb2 := fun y => (KB8 y).2.2.1; have lb3 := fun y => (KB8 y).2.2.2.1; have lb4 := fun y => (KB8 y).2.2.2.2.1; have lb5 := fun y => (KB8 y).2.2.2.2.2.1; have lb6 := fun y => (KB8 y).2.2.2.2.2.2.1; have lb7 := fun y => (KB8 y).2.2.2.2.2.2.2.1; have lb8 := fun y => (KB8 y).2.2.2.2.2.2.2.2.1; have lb9 := fun y => (KB8 y).2.2.2.2.2.2.2.2.2
          have hc8 := fun Y => HC.out (Go.Proofs.Ytppmjbnhghaffaa.ext wr Y) x8 y8
          have hv8 : cf x8 y8 < 0 := by rw [hx8, hy8]; exact of_decide_eq_true hlv
          have hd8 : decide (cf x8 y8 < 0) = true := decide_eq_true hv8
          clear hx8 hy8 hiN8 hjN8 KA8 KB8
          go_wp2_with fail
          refine wp_region_ext (by kernel_rfl) (by kernel_rfl) ?_
          repeat (go_big_quiet_step ((first | (go_at_fn g; with_reducible exact qe (hc8 _)))))
          refine wpQuiet_nil ?_
          intro _ hw'
          obtain ⟨gx, hw''⟩ := hw'
          subst hw''
          have S2 : Aside (SP base w0 blk cap d (Go.Proofs.Ytppmjbnhghaffaa.ext wr gx)) := S1.out.ext gx
          clear la0 la1 la2 la3 la4 la5 la6 la7 la8 la9 lb0 lb1 lb2 lb3 lb4 lb5 lb6 lb7 lb8 lb9 hc8 S1
          generalize Go.Proofs.Ytppmjbnhghaffaa.ext wr gx = w2 at S2 ⊢
          clear gx
          clear ea8 ec8
          go_wp2
          go_roundg (h - i)
          case measure => omega
          case rel => exact ⟨i, h, rfl, by first | rfl | go_num | (congr 1; omega), by omega, by omega, by omega, Nat.le_refl _, S2, HB'⟩
      | false =>
        as_aux_lemma =>
          have HB' : Hid (∃ q, j - (h + 1) ≤ q ∧ bsr (fun h => !(ltOf cf) d[m]! d[h]!) q (h + 1) j = bsr (fun h => !(ltOf cf) d[m]! d[h]!) (b - a) (a) (m)) := by
            obtain ⟨q, hq, hb⟩ := HB.out
            cases q with
            | zero => omega
            | succ q => exact ⟨q, by omega, by rw [← hb]; (conv => rhs; unfold bsr; rw [if_pos hlt, ← HH.out]); exact (if_pos (by simp [hlv])).symm⟩
          clear HB
          obtain ⟨iN9, hiN9⟩ : ∃ q, q = m := ⟨_, rfl⟩
          obtain ⟨jN9, hjN9⟩ : ∃ q, q = h := ⟨_, rfl⟩
          have ea9 : ((m : Int)).toNat = iN9 := by omega
          have pa9 : (0 : Int) ≤ (m : Int) := by omega
          have ba9 : (m : Int) < (d.size : Int) := by omega
          have ra9 : IntKind.i64.wrap ((m : Int)) = (m : Int) := by rw [IntKind.wrap_i64]; omega
          have ec9 : ((h : Int)).toNat = jN9 := by omega
          have pc9 : (0 : Int) ≤ (h : Int) := by omega
          have bc9 : (h : Int) < (d.size : Int) := by omega
          have rc9 : IntKind.i64.wrap ((h : Int)) = (h : Int) := by rw [IntKind.wrap_i64]; omega
          obtain ⟨x9, hx9⟩ : ∃ x, x = d[m]! := ⟨_, rfl⟩
          obtain ⟨y9, hy9⟩ : ∃ x, x = d[h]! := ⟨_, rfl⟩
          have KA9 : ∀ Y, PeIn (Go.Proofs.Ytppmjbnhghaffaa.ext wr Y) blk (iN9 * 10) x9 := fun Y => by rw [hiN9, hx9]; exact S1.out.cl (by omega) Y
          have KB9 : ∀ Y, PeIn (Go.Proofs.Ytppmjbnhghaffaa.ext wr Y) blk (jN9 * 10) y9 := fun Y => by rw [hjN9, hy9]; exact S1.out.cl (by omega) Y
          have la0 := fun y => (KA9 y).1; have la1 := fun y => (KA9 y).2.1; have la2 := fun y => (KA9 y).2.2.1; have la3 := fun y => (KA9 y).2.2.2.1; have la4 := fun y => (KA9 y).2.2.2.2.1; have la5 := fun y => (KA9 y).2.2.2.2.2.1; have la6 := fun y => (KA9 y).2.2.2.2.2.2.1; have la7 := fun y => (KA9 y).2.2.2.2.2.2.2.1; have la8 := fun y => (KA9 y).2.2.2.2.2.2.2.2.1; have la9 := fun y => (KA9 y).2.2.2.2.2.2.2.2.2
          have lb0 := fun y => (KB9 y).1; have lb1 := fun y => (KB9 y).2.1; have lb2 := fun y => (KB9 y).2.2.1; have lb3 := fun y => (KB9 y).2.2.2.1; have lb4 := fun y => (KB9 y).2.2.2.2.1; have lb5 := fun y => (KB9 y).2.2.2.2.2.1; have lb6 := fun y => (KB9 y).2.2.2.2.2.2.1; have lb7 := fun y => (KB9 y).2.2.2.2.2.2.2.1; have lb8 := fun y => (KB9 y).2.2.2.2.2.2.2.2.1; have lb9 := fun y => (KB9 y).2.2.2.2.2.2.2.2.2
          have hc9 := fun Y => HC.out (Go.Proofs.Ytppmjbnhghaffaa.ext wr Y) x9 y9
          have hv9 : ¬ cf x9 y9 < 0 := by rw [hx9, hy9]; exact of_decide_eq_false hlv
          have hd9 : decide (cf x9 y9 < 0) = false := decide_eq_false hv9
          clear hx9 hy9 hiN9 hjN9 KA9 KB9
          go_wp2_with fail
          refine wp_region_ext (by kernel_rfl) (by kernel_rfl) ?_
          repeat (go_big_quiet_step ((first | (go_at_fn g; with_reducible exact qe (hc9 _)))))
          refine wpQuiet_nil ?_
          intro _ hw'
          obtain ⟨gx, hw''⟩ := hw'
          subst hw''
          have S2 : Aside (SP base w0 blk cap d (Go.Proofs.Ytppmjbnhghaffaa.ext wr gx)) := S1.out.ext gx
          clear la0 la1 la2 la3 la4 la5 la6 la7 la8 la9 lb0 lb1 lb2 lb3 lb4 lb5 lb6 lb7 lb8 lb9 hc9 S1
          generalize Go.Proofs.Ytppmjbnhghaffaa.ext wr gx = w2 at S2 ⊢
          clear gx
          clear ea9 ec9
          go_wp2
          go_roundg (j - (h + 1))
          case measure => omega
          case rel => exact ⟨h + 1, j, by first | rfl | go_num | (congr 1; omega), rfl, by omega, by omega, by omega, Nat.le_refl _, S2, HB'⟩
    · obtain rfl : i = j := by omega
      have HR : Hid (bsr (fun h => !(ltOf cf) d[m]! d[h]!) (b - a) (a) (m) = i) := by
        obtain ⟨q, hq, hb⟩ := HB.out
        show _ = _
        rw [← hb]; cases q with
        | zero => rfl
        | succ q => unfold bsr; rw [if_neg (by omega)]
      clear HB
      go_wp2
      go_loopg [17] (m - i) (fun g1 vk wr => ∃ (k : Nat) (dk : Array Pe), vk = .int .i64 k ∧ i ≤ k ∧ k ≤ m ∧ k - i ≤ g1 ∧ dk.size = d.size ∧ Aside (SP base w0 blk cap dk wr) ∧ Hid (downA (k - i) k dk = downA (m - i) m d))
      case atStart => exact ⟨m, d, rfl, by omega, Nat.le_refl _, Nat.le_refl _, rfl, S1, rfl⟩
      case round =>
        clear S1
        obtain ⟨k, dk, rfl, hik, hkm, hg1, hsk, S1, HO⟩ := hrel
        by_cases hkl : i < k
        · have hklz : (i : Int) < (k : Int) := by omega
          obtain ⟨kp, hkp⟩ : ∃ q, q + 1 = k := ⟨k - 1, by omega⟩
          have zkp : (k : Int) = (kp : Int) + 1 := by omega
          have hklz' : (i : Int) < (kp : Int) + 1 := by omega
          obtain ⟨iN10, hiN10⟩ : ∃ q, q = k := ⟨_, rfl⟩
          obtain ⟨jN10, hjN10⟩ : ∃ q, q = k - 1 := ⟨_, rfl⟩
          have ea10 : ((kp : Int) + 1).toNat = iN10 := by omega
          have pa10 : (0 : Int) ≤ (kp : Int) + 1 := by omega
          have ba10 : (kp : Int) + 1 < (d.size : Int) := by omega
          have ra10 : IntKind.i64.wrap ((kp : Int) + 1) = (kp : Int) + 1 := by rw [IntKind.wrap_i64]; omega
          have ec10 : ((kp : Int)).toNat = jN10 := by omega
          have pc10 : (0 : Int) ≤ (kp : Int) := by omega
          have bc10 : (kp : Int) < (d.size : Int) := by omega
          have rc10 : IntKind.i64.wrap ((kp : Int)) = (kp : Int) := by rw [IntKind.wrap_i64]; omega
          obtain ⟨x10, hx10⟩ : ∃ x, x = dk[k]! := ⟨_, rfl⟩
          obtain ⟨y10, hy10⟩ : ∃ x, x = dk[k - 1]! := ⟨_, rfl⟩
          have S3 : Aside (SP base w0 blk cap (swp dk (k) (k - 1)) ((wr.drew.setCells blk (iN10 * 10) (peV y10)).setCells blk (jN10 * 10) (peV x10))) := by rw [hiN10, hjN10, hx10, hy10]; exact S1.out.drew.swapped2 (i := k) (j := k - 1) (by omega) (by omega)
          have RA10 : Hid (wr.drew.rangeAt blk (iN10 * 10) (peV x10)) := by show World.rangeAt _ _ _ _; rw [hiN10, hx10]; exact S1.out.drew.range (by omega)
          have RB10 : Hid (wr.drew.rangeAt blk (jN10 * 10) (peV y10)) := by show World.rangeAt _ _ _ _; rw [hjN10, hy10]; exact S1.out.drew.range (by omega)
          have TA10 : Hid (wr.drew.there blk (iN10 * 10) 10) := by show World.there _ _ _ _; rw [hiN10]; exact S1.out.drew.there (by omega)
          have TB10 : Hid ((wr.drew.setCells blk (iN10 * 10) (peV y10)).there blk (jN10 * 10) 10) := by show World.there _ _ _ _; rw [hiN10, hjN10]; exact S1.out.drew.there2 (by omega) (by omega) _
          clear S1 hx10 hy10
          clear hiN10
          have hzJ10 : kp = jN10 := by omega
          clear hjN10 ec10
          subst hzJ10
          go_wp2_with fail
          refine wp_region_any (by kernel_rfl) ?_
          try (change wpAny _ _ _ _ _ _ _ (World.drew _))
          refine wpAny_take (i := 0) (v := ?_) (by simp only [List.getElem?_toArray, List.getElem?_cons_succ, List.getElem?_cons_zero]; rfl) (by kernel_rfl) (by kernel_rfl) (by kernel_rfl) ?hQ49 (Or.inl ⟨by rfl, ?hy49⟩) ?main49
          case hQ49 => exact fun _ _ _ h => h
          case hy49 => ((intro w; go_simp); try with_reducible rfl)
          simp only [Act.put, List.setIfInBounds_toArray, List.set_cons_zero, List.set_cons_succ, List.toList_toArray]
          refine wpAny_take (i := 1) (v := ?_) (by simp only [List.getElem?_toArray, List.getElem?_cons_succ, List.getElem?_cons_zero]; rfl) (by kernel_rfl) (by kernel_rfl) (by kernel_rfl) ?hQ50 (Or.inl ⟨by rfl, ?hy50⟩) ?main50
          case hQ50 => exact fun _ _ _ h => h
          case hy50 => ((intro w; go_simp); try with_reducible rfl)
          simp only [Act.put, List.setIfInBounds_toArray, List.set_cons_zero, List.set_cons_succ, List.toList_toArray]
          refine wpAny_take (i := 2) (v := ?_) (by simp only [List.getElem?_toArray, List.getElem?_cons_succ, List.getElem?_cons_zero]; rfl) (by kernel_rfl) (by kernel_rfl) (by kernel_rfl) ?hQ51 (Or.inl ⟨by rfl, ?hy51⟩) ?main51
          case hQ51 => exact fun _ _ _ h => h
          case hy51 => ((intro w; go_simp); try with_reducible rfl)
          simp only [Act.put, List.setIfInBounds_toArray, List.set_cons_zero, List.set_cons_succ, List.toList_toArray]
          refine wpAny_take (i := 3) (v := ?_) (by simp only [List.getElem?_toArray, List.getElem?_cons_succ, List.getElem?_cons_zero]; rfl) (by kernel_rfl) (by kernel_rfl) (by kernel_rfl) ?hQ52 (Or.inl ⟨by rfl, ?hy52⟩) ?main52
          case hQ52 => exact fun _ _ _ h => h
          case hy52 => ((intro w; go_simp); try with_reducible rfl)
          simp only [Act.put, List.setIfInBounds_toArray, List.set_cons_zero, List.set_cons_succ, List.toList_toArray]
          refine wpAny_take (i := 4) (v := ?_) (by simp only [List.getElem?_toArray, List.getElem?_cons_succ, List.getElem?_cons_zero]; rfl) (by kernel_rfl) (by kernel_rfl) (by kernel_rfl) ?hQ53 (Or.inl ⟨by rfl, ?hy53⟩) ?main53
          case hQ53 => exact fun _ _ _ h => h
          case hy53 => ((intro w; go_simp); try with_reducible rfl)
          simp only [Act.put, List.setIfInBounds_toArray, List.set_cons_zero, List.set_cons_succ, List.toList_toArray]
          refine wpAny_take (i := 5) (v := ?_) (by simp only [List.getElem?_toArray, List.getElem?_cons_succ, List.getElem?_cons_zero]; rfl) (by kernel_rfl) (by kernel_rfl) (by kernel_rfl) ?hQ54 (Or.inl ⟨by rfl, ?hy54⟩) ?main54
          case hQ54 => exact fun _ _ _ h => h
          case hy54 => ((intro w; go_simp); try with_reducible rfl)
          simp only [Act.put, List.setIfInBounds_toArray, List.set_cons_zero, List.set_cons_succ, List.toList_toArray]
          refine wpAny_take (i := 6) (v := ?_) (by simp only [List.getElem?_toArray, List.getElem?_cons_succ, List.getElem?_cons_zero]; rfl) (by kernel_rfl) (by kernel_rfl) (by kernel_rfl) ?hQ55 (Or.inl ⟨by rfl, ?hy55⟩) ?main55
          case hQ55 => exact fun _ _ _ h => h
          case hy55 => ((intro w; go_simp); try with_reducible rfl)
          simp only [Act.put, List.setIfInBounds_toArray, List.set_cons_zero, List.set_cons_succ, List.toList_toArray]
          refine wpAny_take (i := 7) (v := ?_) (by simp only [List.getElem?_toArray, List.getElem?_cons_succ, List.getElem?_cons_zero]; rfl) (by kernel_rfl) (by kernel_rfl) (by kernel_rfl) ?hQ56 (Or.inl ⟨by rfl, ?hy56⟩) ?main56
          case hQ56 => exact fun _ _ _ h => h
          case hy56 => ((intro w; go_simp); try with_reducible rfl)
          simp only [Act.put, List.setIfInBounds_toArray, List.set_cons_zero, List.set_cons_succ, List.toList_toArray]
          refine wpAny_take (i := 8) (v := ?_) (by simp only [List.getElem?_toArray, List.getElem?_cons_succ, List.getElem?_cons_zero]; rfl) (by kernel_rfl) (by kernel_rfl) (by kernel_rfl) ?hQ57 (Or.inl ⟨by rfl, ?hy57⟩) ?main57
          case hQ57 => exact fun _ _ _ h => h
          case hy57 => ((intro w; go_simp); try with_reducible rfl)
          simp only [Act.put, List.setIfInBounds_toArray, List.set_cons_zero, List.set_cons_succ, List.toList_toArray]
          refine wpAny_take (i := 10) (v := ?_) (by simp only [List.getElem?_toArray, List.getElem?_cons_succ, List.getElem?_cons_zero]; rfl) (by kernel_rfl) (by kernel_rfl) (by kernel_rfl) ?hQ58 (Or.inl ⟨by rfl, ?hy58⟩) ?main58
          case hQ58 => exact fun _ _ _ h => h
          case hy58 => ((intro w; go_simp); try with_reducible rfl)
          simp only [Act.put, List.setIfInBounds_toArray, List.set_cons_zero, List.set_cons_succ, List.toList_toArray]
          refine wpAny_take (i := 11) (v := ?_) (by simp only [List.getElem?_toArray, List.getElem?_cons_succ, List.getElem?_cons_zero]; rfl) (by kernel_rfl) (by kernel_rfl) (by kernel_rfl) ?hQ59 (Or.inl ⟨by rfl, ?hy59⟩) ?main59
          case hQ59 => exact fun _ _ _ h => h
          case hy59 => ((intro w; go_simp); try with_reducible rfl)
          simp only [Act.put, List.setIfInBounds_toArray, List.set_cons_zero, List.set_cons_succ, List.toList_toArray]
          refine wpAny_take (i := 12) (v := ?_) (by simp only [List.getElem?_toArray, List.getElem?_cons_succ, List.getElem?_cons_zero]; rfl) (by kernel_rfl) (by kernel_rfl) (by kernel_rfl) ?hQ60 (Or.inl ⟨by rfl, ?hy60⟩) ?main60
          case hQ60 => exact fun _ _ _ h => h
          case hy60 => ((intro w; go_simp); try with_reducible rfl)
          simp only [Act.put, List.setIfInBounds_toArray, List.set_cons_zero, List.set_cons_succ, List.toList_toArray]
          refine any_loads2 (i := 9) (j := 13) (by simp only [List.getElem?_toArray, List.getElem?_cons_succ, List.getElem?_cons_zero]; rfl) (by simp only [List.getElem?_toArray, List.getElem?_cons_succ, List.getElem?_cons_zero]; rfl) (by kernel_rfl) (by kernel_rfl) (by kernel_rfl) rfl rfl 66 (.tmp 121) (.tmp 125) rfl rfl blk (kp * 10) (iN10 * 10) _ _ _ rfl rfl rfl rfl RB10.out RA10.out Try.underlying66 rfl (by kernel_rfl) (by kernel_rfl) (by decide) rfl ?_
          simp only [Act.put, List.setIfInBounds_toArray, List.set_cons_zero, List.set_cons_succ, List.toList_toArray]
          refine wpAny_take (i := 14) (v := ?_) (by simp only [List.getElem?_toArray, List.getElem?_cons_succ, List.getElem?_cons_zero]; rfl) (by kernel_rfl) (by kernel_rfl) (by kernel_rfl) ?hQ61 (Or.inl ⟨by rfl, ?hy61⟩) ?main61
          case hQ61 => exact fun _ _ _ h => h
          case hy61 => ((intro w; go_simp); try with_reducible rfl)
          simp only [Act.put, List.setIfInBounds_toArray, List.set_cons_zero, List.set_cons_succ, List.toList_toArray]
          refine any_one (i := 15) (by kernel_rfl) ?_
          refine wpOp_store_mid (by simp only [List.getElem?_toArray, List.getElem?_cons_succ, List.getElem?_cons_zero]; rfl) rfl 66 (.tmp 127) (.tmp 122) rfl blk (iN10 * 10) (peV y10).toArray rfl rfl TA10.out (by kernel_rfl) (peV_all _) ?_
          simp only [Act.put, List.setIfInBounds_toArray, List.set_cons_zero, List.set_cons_succ, List.toList_toArray]
          refine wpAny_take (i := 16) (v := ?_) (by simp only [List.getElem?_toArray, List.getElem?_cons_succ, List.getElem?_cons_zero]; rfl) (by kernel_rfl) (by kernel_rfl) (by kernel_rfl) ?hQ62 (Or.inl ⟨by rfl, ?hy62⟩) ?main62
          case hQ62 => exact fun _ _ _ h => h
          case hy62 => ((intro w; go_simp); try with_reducible rfl)
          simp only [Act.put, List.setIfInBounds_toArray, List.set_cons_zero, List.set_cons_succ, List.toList_toArray]
          refine any_one (i := 17) (by kernel_rfl) ?_
          refine wpOp_store_mid (by simp only [List.getElem?_toArray, List.getElem?_cons_succ, List.getElem?_cons_zero]; rfl) rfl 66 (.tmp 128) (.tmp 126) rfl blk (kp * 10) (peV x10).toArray rfl rfl TB10.out (by kernel_rfl) (peV_all _) ?_
          simp only [Act.put, List.setIfInBounds_toArray, List.set_cons_zero, List.set_cons_succ, List.toList_toArray]
          refine wpAny_done (by kernel_rfl) ?_ _
          clear RA10 RB10 TA10 TB10
          generalize ((wr.drew.setCells blk (iN10 * 10) (peV y10)).setCells blk (kp * 10) (peV x10)) = w3 at S3 ⊢
          clear ea10
          go_wp2
          go_roundg (k - 1 - i)
          case measure => omega
          case rel => exact ⟨k - 1, swp dk k (k - 1), by first | rfl | go_num | (congr 1; omega), by omega, by omega, Nat.le_refl _, by rw [size_swp]; exact hsk, S3, (show Hid _ from by rw [← HO.out, show k - i = (k - 1 - i) + 1 by omega]; exact rfl)⟩
        · have hklz : ¬ ((i : Int) < (k : Int)) := by omega
          have HF : Hid (symM (ltOf cf) (f + 1) a m b d = dk) := by show _ = _; unfold symM; rw [if_neg c1, if_pos c2, HR.out, ← HO.out, show k - i = 0 by omega]; rfl
          go_wp2
          ((try simp only [Exit.inBlock, Exit.then]); first | refine bodyPost_end (results_none rfl _ _ _) rfl ?_ | refine bodyPost_ret (results_none rfl _ _ _) rfl ?_)
          exact ⟨rfl, by rw [HF.out]; exact S1.out⟩
end Go.Proofs.Ytppmjbnhghaffaa
