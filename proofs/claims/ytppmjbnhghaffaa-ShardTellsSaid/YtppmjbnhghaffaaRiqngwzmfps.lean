/- Texts put together: SortPA. No condition. -/
import Derived.Test.YtppmjbnhghaffaaRunkbqsheoc
import Derived.WalkSpells
import Derived.WalkLawsBesides
import Derived.Deep.DeepCutAuto
namespace Go.Proofs.Ytppmjbnhghaffaa
open Go.RowKit Go.Lib Go.Sort
set_option linter.unusedSimpArgs false
set_option linter.unusedVariables false

set_option maxHeartbeats 16000000 in
set_option maxRecDepth 100000 in
theorem symMergeA_p (cf : Pe → Pe → Int) (g : Nat) (cb : Array Value) (base blk cap : Nat) (n0 : Nat) (w0 : World) (eg : ∀ args w, (callFunc g args).run Try.prog w = .ok (.enter g args) w) (hcmp : CmpP Try.prog g cb cf) (hsz : n0 < 1000000000) (f a m b : Nat) (d : Array Pe) (w : World) (IH : ∀ (a m b : Nat) (d : Array Pe) (w : World), n0 = d.size → SP base w0 blk cap d w → a < m → m < b → b ≤ d.size → b - a ≤ f →
    Calls Try.prog 166 #[.slice (some ⟨blk, 0, none⟩) d.size cap, .int .i64 a, .int .i64 m, .int .i64 b, .func (.func g) #[] cb] w fun e w' => e = .returned (.tuple #[]) ∧ SP base w0 blk cap (symM (ltOf cf) f a m b d) w')
    (hs : n0 = d.size) (S : SP base w0 blk cap d w) (h1 : a < m) (h2 : m < b) (h3 : b ≤ d.size) (h4 : b - a ≤ f + 1) (c1 : m - a = 1) :
    Calls Try.prog 166 #[.slice (some ⟨blk, 0, none⟩) d.size cap, .int .i64 a, .int .i64 m, .int .i64 b, .func (.func g) #[] cb] w fun e w' => e = .returned (.tuple #[]) ∧ SP base w0 blk cap (symM (ltOf cf) (f + 1) a m b d) w' := by
  have mixed : Try.prog.follows .mixedOrders = true := by kernel_rfl
  have HC : Aside _ := hcmp
  have S0 : Aside _ := S
  have IH' : Aside _ := IH
  clear S hcmp IH
  have c1z : (m : Int) - (a : Int) = 1 := by omega
  have c1b : ((m : Int) - (a : Int) == 1) = true := beq_iff_eq.2 c1z
  go_enter Try.func166, Try.ntmps166
  go_wp2
  go_loopg [10, 11] (b - m) (fun g1 vi vj wr => ∃ (i j : Nat), vi = .int .i64 i ∧ vj = .int .i64 j ∧ m ≤ i ∧ i ≤ j ∧ j ≤ b ∧ j - i ≤ g1 ∧ Aside (SP base w0 blk cap d wr) ∧ Hid (∃ q, j - i ≤ q ∧ bsr (fun h => (ltOf cf) d[h]! d[a]!) q i j = bsr (fun h => (ltOf cf) d[h]! d[a]!) (b - a) (m) (b)))
  case atStart => exact ⟨m, b, rfl, rfl, Nat.le_refl _, by omega, Nat.le_refl _, Nat.le_refl _, S0, ⟨_, by omega, rfl⟩⟩
  case round =>
    clear S0
    obtain ⟨i, j, rfl, rfl, hlo, hij, hhi, hg1, S1, HB⟩ := hrel
    by_cases hlt : i < j
    · have hltz : (i : Int) < (j : Int) := by omega
      obtain ⟨h, hh⟩ : ∃ h, h = (i + j) / 2 := ⟨_, rfl⟩
      have zh : ((i : Int) + (j : Int)) / 2 = (h : Int) := by omega
      have h5 : i ≤ h := by omega
      have h6 : h < j := by omega
      have HH : Hid (h = (i + j) / 2) := hh
      clear hh
      cases hlv : (ltOf cf) d[h]! d[a]! with
      | true =>
        as_aux_lemma =>
          have HB' : Hid (∃ q, j - (h + 1) ≤ q ∧ bsr (fun h => (ltOf cf) d[h]! d[a]!) q (h + 1) j = bsr (fun h => (ltOf cf) d[h]! d[a]!) (b - a) (m) (b)) := by
            obtain ⟨q, hq, hb⟩ := HB.out
            cases q with
            | zero => omega
            | succ q => exact ⟨q, by omega, by rw [← hb]; (conv => rhs; unfold bsr; rw [if_pos hlt, ← HH.out]); exact (if_pos (by simp [hlv])).symm⟩
          clear HB
          obtain ⟨iN5, hiN5⟩ : ∃ q, q = h := ⟨_, rfl⟩
          obtain ⟨jN5, hjN5⟩ : ∃ q, q = a := ⟨_, rfl⟩
          have ea5 : ((h : Int)).toNat = iN5 := by omega
          have pa5 : (0 : Int) ≤ (h : Int) := by omega
          have ba5 : (h : Int) < (d.size : Int) := by omega
          have ra5 : IntKind.i64.wrap ((h : Int)) = (h : Int) := by rw [IntKind.wrap_i64]; omega
          have ec5 : ((a : Int)).toNat = jN5 := by omega
          have pc5 : (0 : Int) ≤ (a : Int) := by omega
          have bc5 : (a : Int) < (d.size : Int) := by omega
          have rc5 : IntKind.i64.wrap ((a : Int)) = (a : Int) := by rw [IntKind.wrap_i64]; omega
          obtain ⟨x5, hx5⟩ : ∃ x, x = d[h]! := ⟨_, rfl⟩
          obtain ⟨y5, hy5⟩ : ∃ x, x = d[a]! := ⟨_, rfl⟩
          have KA5 : ∀ Y, PeIn (Go.Proofs.Ytppmjbnhghaffaa.ext wr Y) blk (iN5 * 10) x5 := fun Y => by rw [hiN5, hx5]; exact S1.out.cl (by omega) Y
          have KB5 : ∀ Y, PeIn (Go.Proofs.Ytppmjbnhghaffaa.ext wr Y) blk (jN5 * 10) y5 := fun Y => by rw [hjN5, hy5]; exact S1.out.cl (by omega) Y
          have la0 := fun y => (KA5 y).1; have la1 := fun y => (KA5 y).2.1; have la2 := fun y => (KA5 y).2.2.1; have la3 := fun y => (KA5 y).2.2.2.1; have la4 := fun y => (KA5 y).2.2.2.2.1; have la5 := fun y => (KA5 y).2.2.2.2.2.1; have la6 := fun y => (KA5 y).2.2.2.2.2.2.1; have la7 := fun y => (KA5 y).2.2.2.2.2.2.2.1; have la8 := fun y => (KA5 y).2.2.2.2.2.2.2.2.1; have la9 := fun y => (KA5 y).2.2.2.2.2.2.2.2.2
          have lb0 := fun y => (KB5 y).1; have lb1 := fun y => (KB5 y).2.1; have lb2 := fun y => (KB5 y).2.2.1; have lb3 := fun y => (KB5 y).2.2.2.1; have lb4 := fun y => (KB5 y).2.2.2.2.1; have lb5 := fun y => (KB5 y).2.2.2.2.2.1; have lb6 := fun y => (KB5 y).2.2.2.2.2.2.1; have lb7 := fun y => (KB5 y).2.2.2.2.2.2.2.1; have lb8 := fun y => (KB5 y).2.2.2.2.2.2.2.2.1; have lb9 := fun y => (KB5 y).2.2.2.2.2.2.2.2.2
          have hc5 := fun Y => HC.out (Go.Proofs.Ytppmjbnhghaffaa.ext wr Y) x5 y5
          have hv5 : cf x5 y5 < 0 := by rw [hx5, hy5]; exact of_decide_eq_true hlv
          have hd5 : decide (cf x5 y5 < 0) = true := decide_eq_true hv5
          clear hx5 hy5 hiN5 hjN5 KA5 KB5
          go_wp2_with fail
          refine wp_region_ext (by kernel_rfl) (by kernel_rfl) ?_
          repeat (go_big_quiet_step ((first | (go_at_fn g; with_reducible exact qe (hc5 _)))))
          refine wpQuiet_nil ?_
          intro _ hw'
          obtain ⟨gx, hw''⟩ := hw'
          subst hw''
          have S2 : Aside (SP base w0 blk cap d (Go.Proofs.Ytppmjbnhghaffaa.ext wr gx)) := S1.out.ext gx
          clear la0 la1 la2 la3 la4 la5 la6 la7 la8 la9 lb0 lb1 lb2 lb3 lb4 lb5 lb6 lb7 lb8 lb9 hc5 S1
          generalize Go.Proofs.Ytppmjbnhghaffaa.ext wr gx = w2 at S2 ⊢
          clear gx
          clear ea5 ec5
          go_wp2
          go_roundg (j - (h + 1))
          case measure => omega
          case rel => exact ⟨h + 1, j, by first | rfl | go_num | (congr 1; omega), rfl, by omega, by omega, by omega, Nat.le_refl _, S2, HB'⟩
      | false =>
        as_aux_lemma =>
          have HB' : Hid (∃ q, h - i ≤ q ∧ bsr (fun h => (ltOf cf) d[h]! d[a]!) q i h = bsr (fun h => (ltOf cf) d[h]! d[a]!) (b - a) (m) (b)) := by
            obtain ⟨q, hq, hb⟩ := HB.out
            cases q with
            | zero => omega
            | succ q => exact ⟨q, by omega, by rw [← hb]; (conv => rhs; unfold bsr; rw [if_pos hlt, ← HH.out]); exact (if_neg (by simp [hlv])).symm⟩
          clear HB
          obtain ⟨iN6, hiN6⟩ : ∃ q, q = h := ⟨_, rfl⟩
          obtain ⟨jN6, hjN6⟩ : ∃ q, q = a := ⟨_, rfl⟩
          have ea6 : ((h : Int)).toNat = iN6 := by omega
          have pa6 : (0 : Int) ≤ (h : Int) := by omega
          have ba6 : (h : Int) < (d.size : Int) := by omega
          have ra6 : IntKind.i64.wrap ((h : Int)) = (h : Int) := by rw [IntKind.wrap_i64]; omega
          have ec6 : ((a : Int)).toNat = jN6 := by omega
          have pc6 : (0 : Int) ≤ (a : Int) := by omega
          have bc6 : (a : Int) < (d.size : Int) := by omega
          have rc6 : IntKind.i64.wrap ((a : Int)) = (a : Int) := by rw [IntKind.wrap_i64]; omega
          obtain ⟨x6, hx6⟩ : ∃ x, x = d[h]! := ⟨_, rfl⟩
          obtain ⟨y6, hy6⟩ : ∃ x, x = d[a]! := ⟨_, rfl⟩
          have KA6 : ∀ Y, PeIn (Go.Proofs.Ytppmjbnhghaffaa.ext wr Y) blk (iN6 * 10) x6 := fun Y => by rw [hiN6, hx6]; exact S1.out.cl (by omega) Y
          have KB6 : ∀ Y, PeIn (Go.Proofs.Ytppmjbnhghaffaa.ext wr Y) blk (jN6 * 10) y6 := fun Y => by rw [hjN6, hy6]; exact S1.out.cl (by omega) Y
          have la0 := fun y => (KA6 y).1; have la1 := fun y => (KA6 y).2.1; have la2 := fun y => (KA6 y).2.2.1; have la3 := fun y => (KA6 y).2.2.2.1; have la4 := fun y => (KA6 y).2.2.2.2.1; have la5 := fun y => (KA6 y).2.2.2.2.2.1; have la6 := fun y => (KA6 y).2.2.2.2.2.2.1; have la7 := fun y => (KA6 y).2.2.2.2.2.2.2.1; have la8 := fun y => (KA6 y).2.2.2.2.2.2.2.2.1; have la9 := fun y => (KA6 y).2.2.2.2.2.2.2.2.2
          have lb0 := fun y => (KB6 y).1; have lb1 := fun y => (KB6 y).2.1; have lb2 := fun y => (KB6 y).2.2.1; have lb3 := fun y => (KB6 y).2.2.2.1; have lb4 := fun y => (KB6 y).2.2.2.2.1; have lb5 := fun y => (KB6 y).2.2.2.2.2.1; have lb6 := fun y => (KB6 y).2.2.2.2.2.2.1; have lb7 := fun y => (KB6 y).2.2.2.2.2.2.2.1; have lb8 := fun y => (KB6 y).2.2.2.2.2.2.2.2.1; have lb9 := fun y => (KB6 y).2.2.2.2.2.2.2.2.2
          have hc6 := fun Y => HC.out (Go.Proofs.Ytppmjbnhghaffaa.ext wr Y) x6 y6
          have hv6 : ¬ cf x6 y6 < 0 := by rw [hx6, hy6]; exact of_decide_eq_false hlv
          have hd6 : decide (cf x6 y6 < 0) = false := decide_eq_false hv6
          clear hx6 hy6 hiN6 hjN6 KA6 KB6
          go_wp2_with fail
          refine wp_region_ext (by kernel_rfl) (by kernel_rfl) ?_
          repeat (go_big_quiet_step ((first | (go_at_fn g; with_reducible exact qe (hc6 _)))))
          refine wpQuiet_nil ?_
          intro _ hw'
          obtain ⟨gx, hw''⟩ := hw'
          subst hw''
          have S2 : Aside (SP base w0 blk cap d (Go.Proofs.Ytppmjbnhghaffaa.ext wr gx)) := S1.out.ext gx
          clear la0 la1 la2 la3 la4 la5 la6 la7 la8 la9 lb0 lb1 lb2 lb3 lb4 lb5 lb6 lb7 lb8 lb9 hc6 S1
          generalize Go.Proofs.Ytppmjbnhghaffaa.ext wr gx = w2 at S2 ⊢
          clear gx
          clear ea6 ec6
          go_wp2
          go_roundg (h - i)
          case measure => omega
          case rel => exact ⟨i, h, rfl, by first | rfl | go_num | (congr 1; omega), by omega, by omega, by omega, Nat.le_refl _, S2, HB'⟩
    · obtain rfl : i = j := by omega
      have HR : Hid (bsr (fun h => (ltOf cf) d[h]! d[a]!) (b - a) (m) (b) = i) := by
        obtain ⟨q, hq, hb⟩ := HB.out
        show _ = _
        rw [← hb]; cases q with
        | zero => rfl
        | succ q => unfold bsr; rw [if_neg (by omega)]
      clear HB
      go_wp2
      go_loopg [13] (i - 1 - a) (fun g1 vk wr => ∃ (k : Nat) (dk : Array Pe), vk = .int .i64 k ∧ a ≤ k ∧ k ≤ i - 1 ∧ i - 1 - k ≤ g1 ∧ dk.size = d.size ∧ Aside (SP base w0 blk cap dk wr) ∧ Hid (upA (i - 1 - k) k dk = upA (i - 1 - a) a d))
      case atStart => exact ⟨a, d, rfl, Nat.le_refl _, by omega, Nat.le_refl _, rfl, S1, rfl⟩
      case round =>
        clear S1
        obtain ⟨k, dk, rfl, hak, hki, hg1, hsk, S1, HO⟩ := hrel
        by_cases hkl : k < i - 1
        · have hklz : (k : Int) < (i : Int) - 1 := by omega
          obtain ⟨iN7, hiN7⟩ : ∃ q, q = k := ⟨_, rfl⟩
          obtain ⟨jN7, hjN7⟩ : ∃ q, q = k + 1 := ⟨_, rfl⟩
          have ea7 : ((k : Int)).toNat = iN7 := by omega
          have pa7 : (0 : Int) ≤ (k : Int) := by omega
          have ba7 : (k : Int) < (d.size : Int) := by omega
          have ra7 : IntKind.i64.wrap ((k : Int)) = (k : Int) := by rw [IntKind.wrap_i64]; omega
          have ec7 : ((k : Int) + 1).toNat = jN7 := by omega
          have pc7 : (0 : Int) ≤ (k : Int) + 1 := by omega
          have bc7 : (k : Int) + 1 < (d.size : Int) := by omega
          have rc7 : IntKind.i64.wrap ((k : Int) + 1) = (k : Int) + 1 := by rw [IntKind.wrap_i64]; omega
          obtain ⟨x7, hx7⟩ : ∃ x, x = dk[k]! := ⟨_, rfl⟩
          obtain ⟨y7, hy7⟩ : ∃ x, x = dk[k + 1]! := ⟨_, rfl⟩
          have S3 : Aside (SP base w0 blk cap (swp dk (k) (k + 1)) ((wr.drew.setCells blk (iN7 * 10) (peV y7)).setCells blk (jN7 * 10) (peV x7))) := by rw [hiN7, hjN7, hx7, hy7]; exact S1.out.drew.swapped2 (i := k) (j := k + 1) (by omega) (by omega)
          have RA7 : Hid (wr.drew.rangeAt blk (iN7 * 10) (peV x7)) := by show World.rangeAt _ _ _ _; rw [hiN7, hx7]; exact S1.out.drew.range (by omega)
          have RB7 : Hid (wr.drew.rangeAt blk (jN7 * 10) (peV y7)) := by show World.rangeAt _ _ _ _; rw [hjN7, hy7]; exact S1.out.drew.range (by omega)
          have TA7 : Hid (wr.drew.there blk (iN7 * 10) 10) := by show World.there _ _ _ _; rw [hiN7]; exact S1.out.drew.there (by omega)
          have TB7 : Hid ((wr.drew.setCells blk (iN7 * 10) (peV y7)).there blk (jN7 * 10) 10) := by show World.there _ _ _ _; rw [hiN7, hjN7]; exact S1.out.drew.there2 (by omega) (by omega) _
          clear S1 hx7 hy7
          have hzI7 : k = iN7 := by omega
          clear hiN7 ea7
          subst hzI7
          clear hjN7
          go_wp2_with fail
          refine wp_region_any (by kernel_rfl) ?_
          try (change wpAny _ _ _ _ _ _ _ (World.drew _))
          refine wpAny_take (i := 0) (v := ?_) (by simp only [List.getElem?_toArray, List.getElem?_cons_succ, List.getElem?_cons_zero]; rfl) (by kernel_rfl) (by kernel_rfl) (by kernel_rfl) ?hQ35 (Or.inl ⟨by rfl, ?hy35⟩) ?main35
          case hQ35 => exact fun _ _ _ h => h
          case hy35 => ((intro w; go_simp); try with_reducible rfl)
          simp only [Act.put, List.setIfInBounds_toArray, List.set_cons_zero, List.set_cons_succ, List.toList_toArray]
          refine wpAny_take (i := 1) (v := ?_) (by simp only [List.getElem?_toArray, List.getElem?_cons_succ, List.getElem?_cons_zero]; rfl) (by kernel_rfl) (by kernel_rfl) (by kernel_rfl) ?hQ36 (Or.inl ⟨by rfl, ?hy36⟩) ?main36
          case hQ36 => exact fun _ _ _ h => h
          case hy36 => ((intro w; go_simp); try with_reducible rfl)
          simp only [Act.put, List.setIfInBounds_toArray, List.set_cons_zero, List.set_cons_succ, List.toList_toArray]
          refine wpAny_take (i := 2) (v := ?_) (by simp only [List.getElem?_toArray, List.getElem?_cons_succ, List.getElem?_cons_zero]; rfl) (by kernel_rfl) (by kernel_rfl) (by kernel_rfl) ?hQ37 (Or.inl ⟨by rfl, ?hy37⟩) ?main37
          case hQ37 => exact fun _ _ _ h => h
          case hy37 => ((intro w; go_simp); try with_reducible rfl)
          simp only [Act.put, List.setIfInBounds_toArray, List.set_cons_zero, List.set_cons_succ, List.toList_toArray]
          refine wpAny_take (i := 3) (v := ?_) (by simp only [List.getElem?_toArray, List.getElem?_cons_succ, List.getElem?_cons_zero]; rfl) (by kernel_rfl) (by kernel_rfl) (by kernel_rfl) ?hQ38 (Or.inl ⟨by rfl, ?hy38⟩) ?main38
          case hQ38 => exact fun _ _ _ h => h
          case hy38 => ((intro w; go_simp); try with_reducible rfl)
          simp only [Act.put, List.setIfInBounds_toArray, List.set_cons_zero, List.set_cons_succ, List.toList_toArray]
          refine wpAny_take (i := 4) (v := ?_) (by simp only [List.getElem?_toArray, List.getElem?_cons_succ, List.getElem?_cons_zero]; rfl) (by kernel_rfl) (by kernel_rfl) (by kernel_rfl) ?hQ39 (Or.inl ⟨by rfl, ?hy39⟩) ?main39
          case hQ39 => exact fun _ _ _ h => h
          case hy39 => ((intro w; go_simp); try with_reducible rfl)
          simp only [Act.put, List.setIfInBounds_toArray, List.set_cons_zero, List.set_cons_succ, List.toList_toArray]
          refine wpAny_take (i := 5) (v := ?_) (by simp only [List.getElem?_toArray, List.getElem?_cons_succ, List.getElem?_cons_zero]; rfl) (by kernel_rfl) (by kernel_rfl) (by kernel_rfl) ?hQ40 (Or.inl ⟨by rfl, ?hy40⟩) ?main40
          case hQ40 => exact fun _ _ _ h => h
          case hy40 => ((intro w; go_simp); try with_reducible rfl)
          simp only [Act.put, List.setIfInBounds_toArray, List.set_cons_zero, List.set_cons_succ, List.toList_toArray]
          refine wpAny_take (i := 6) (v := ?_) (by simp only [List.getElem?_toArray, List.getElem?_cons_succ, List.getElem?_cons_zero]; rfl) (by kernel_rfl) (by kernel_rfl) (by kernel_rfl) ?hQ41 (Or.inl ⟨by rfl, ?hy41⟩) ?main41
          case hQ41 => exact fun _ _ _ h => h
          case hy41 => ((intro w; go_simp); try with_reducible rfl)
          simp only [Act.put, List.setIfInBounds_toArray, List.set_cons_zero, List.set_cons_succ, List.toList_toArray]
          refine wpAny_take (i := 7) (v := ?_) (by simp only [List.getElem?_toArray, List.getElem?_cons_succ, List.getElem?_cons_zero]; rfl) (by kernel_rfl) (by kernel_rfl) (by kernel_rfl) ?hQ42 (Or.inl ⟨by rfl, ?hy42⟩) ?main42
          case hQ42 => exact fun _ _ _ h => h
          case hy42 => ((intro w; go_simp); try with_reducible rfl)
          simp only [Act.put, List.setIfInBounds_toArray, List.set_cons_zero, List.set_cons_succ, List.toList_toArray]
          refine wpAny_take (i := 8) (v := ?_) (by simp only [List.getElem?_toArray, List.getElem?_cons_succ, List.getElem?_cons_zero]; rfl) (by kernel_rfl) (by kernel_rfl) (by kernel_rfl) ?hQ43 (Or.inl ⟨by rfl, ?hy43⟩) ?main43
          case hQ43 => exact fun _ _ _ h => h
          case hy43 => ((intro w; go_simp); try with_reducible rfl)
          simp only [Act.put, List.setIfInBounds_toArray, List.set_cons_zero, List.set_cons_succ, List.toList_toArray]
          refine wpAny_take (i := 10) (v := ?_) (by simp only [List.getElem?_toArray, List.getElem?_cons_succ, List.getElem?_cons_zero]; rfl) (by kernel_rfl) (by kernel_rfl) (by kernel_rfl) ?hQ44 (Or.inl ⟨by rfl, ?hy44⟩) ?main44
          case hQ44 => exact fun _ _ _ h => h
          case hy44 => ((intro w; go_simp); try with_reducible rfl)
          simp only [Act.put, List.setIfInBounds_toArray, List.set_cons_zero, List.set_cons_succ, List.toList_toArray]
          refine wpAny_take (i := 11) (v := ?_) (by simp only [List.getElem?_toArray, List.getElem?_cons_succ, List.getElem?_cons_zero]; rfl) (by kernel_rfl) (by kernel_rfl) (by kernel_rfl) ?hQ45 (Or.inl ⟨by rfl, ?hy45⟩) ?main45
          case hQ45 => exact fun _ _ _ h => h
          case hy45 => ((intro w; go_simp); try with_reducible rfl)
          simp only [Act.put, List.setIfInBounds_toArray, List.set_cons_zero, List.set_cons_succ, List.toList_toArray]
          refine wpAny_take (i := 12) (v := ?_) (by simp only [List.getElem?_toArray, List.getElem?_cons_succ, List.getElem?_cons_zero]; rfl) (by kernel_rfl) (by kernel_rfl) (by kernel_rfl) ?hQ46 (Or.inl ⟨by rfl, ?hy46⟩) ?main46
          case hQ46 => exact fun _ _ _ h => h
          case hy46 => ((intro w; go_simp); try with_reducible rfl)
          simp only [Act.put, List.setIfInBounds_toArray, List.set_cons_zero, List.set_cons_succ, List.toList_toArray]
          refine any_loads2 (i := 9) (j := 13) (by simp only [List.getElem?_toArray, List.getElem?_cons_succ, List.getElem?_cons_zero]; rfl) (by simp only [List.getElem?_toArray, List.getElem?_cons_succ, List.getElem?_cons_zero]; rfl) (by kernel_rfl) (by kernel_rfl) (by kernel_rfl) rfl rfl 66 (.tmp 69) (.tmp 73) rfl rfl blk (jN7 * 10) (k * 10) _ _ _ rfl rfl rfl rfl RB7.out RA7.out Try.underlying66 rfl (by kernel_rfl) (by kernel_rfl) (by decide) rfl ?_
          simp only [Act.put, List.setIfInBounds_toArray, List.set_cons_zero, List.set_cons_succ, List.toList_toArray]
          refine wpAny_take (i := 14) (v := ?_) (by simp only [List.getElem?_toArray, List.getElem?_cons_succ, List.getElem?_cons_zero]; rfl) (by kernel_rfl) (by kernel_rfl) (by kernel_rfl) ?hQ47 (Or.inl ⟨by rfl, ?hy47⟩) ?main47
          case hQ47 => exact fun _ _ _ h => h
          case hy47 => ((intro w; go_simp); try with_reducible rfl)
          simp only [Act.put, List.setIfInBounds_toArray, List.set_cons_zero, List.set_cons_succ, List.toList_toArray]
          refine any_one (i := 15) (by kernel_rfl) ?_
          refine wpOp_store_mid (by simp only [List.getElem?_toArray, List.getElem?_cons_succ, List.getElem?_cons_zero]; rfl) rfl 66 (.tmp 75) (.tmp 70) rfl blk (k * 10) (peV y7).toArray rfl rfl TA7.out (by kernel_rfl) (peV_all _) ?_
          simp only [Act.put, List.setIfInBounds_toArray, List.set_cons_zero, List.set_cons_succ, List.toList_toArray]
          refine wpAny_take (i := 16) (v := ?_) (by simp only [List.getElem?_toArray, List.getElem?_cons_succ, List.getElem?_cons_zero]; rfl) (by kernel_rfl) (by kernel_rfl) (by kernel_rfl) ?hQ48 (Or.inl ⟨by rfl, ?hy48⟩) ?main48
          case hQ48 => exact fun _ _ _ h => h
          case hy48 => ((intro w; go_simp); try with_reducible rfl)
          simp only [Act.put, List.setIfInBounds_toArray, List.set_cons_zero, List.set_cons_succ, List.toList_toArray]
          refine any_one (i := 17) (by kernel_rfl) ?_
          refine wpOp_store_mid (by simp only [List.getElem?_toArray, List.getElem?_cons_succ, List.getElem?_cons_zero]; rfl) rfl 66 (.tmp 76) (.tmp 74) rfl blk (jN7 * 10) (peV x7).toArray rfl rfl TB7.out (by kernel_rfl) (peV_all _) ?_
          simp only [Act.put, List.setIfInBounds_toArray, List.set_cons_zero, List.set_cons_succ, List.toList_toArray]
          refine wpAny_done (by kernel_rfl) ?_ _
          clear RA7 RB7 TA7 TB7
          generalize ((wr.drew.setCells blk (k * 10) (peV y7)).setCells blk (jN7 * 10) (peV x7)) = w3 at S3 ⊢
          clear ec7
          go_wp2
          go_roundg (i - 1 - (k + 1))
          case measure => omega
          case rel => exact ⟨k + 1, swp dk k (k + 1), by first | rfl | go_num | (congr 1; omega), by omega, by omega, Nat.le_refl _, by rw [size_swp]; exact hsk, S3, (show Hid _ from by rw [← HO.out, show i - 1 - k = (i - 1 - (k + 1)) + 1 by omega]; exact rfl)⟩
        · have hklz : ¬ ((k : Int) < (i : Int) - 1) := by omega
          have HF : Hid (symM (ltOf cf) (f + 1) a m b d = dk) := by show _ = _; unfold symM; rw [if_pos c1, HR.out, ← HO.out, show i - 1 - k = 0 by omega]; rfl
          go_wp2
          ((try simp only [Exit.inBlock, Exit.then]); first | refine bodyPost_end (results_none rfl _ _ _) rfl ?_ | refine bodyPost_ret (results_none rfl _ _ _) rfl ?_)
          exact ⟨rfl, by rw [HF.out]; exact S1.out⟩
end Go.Proofs.Ytppmjbnhghaffaa
