/- Texts put together: ShE. No condition. -/
import Derived.Test.YtppmjbnhghaffaaRakzuqvfjlv
import Derived.Test.YtppmjbnhghaffaaRcngjchkxll
import Derived.Test.YtppmjbnhghaffaaRjitwrymhrp
namespace Go.Proofs.Ytppmjbnhghaffaa
open Go.RowKit Go.Lib
set_option linter.unusedSimpArgs false
set_option linter.unusedVariables false

theorem peIffS (a b : Pe) : a = b ↔ a.en.ad.v6 = b.en.ad.v6 ∧ (a.en.ad.hi : Int) = b.en.ad.hi ∧ (a.en.ad.lo : Int) = b.en.ad.lo ∧ a.en.port = b.en.port ∧ a.came = b.came ∧ a.since = b.since ∧ a.pts = b.pts ∧ a.at_ = b.at_ ∧ a.ping = b.ping ∧ a.work = b.work :=
  ⟨fun h => by subst h; exact ⟨rfl, rfl, rfl, rfl, rfl, rfl, rfl, rfl, rfl, rfl⟩, fun ⟨h1, h2, h3, h4, h5, h6, h7, h8, h9, h10⟩ => Pe.ext' (En.ext' (Ad.ext' h1 (by omega) (by omega)) h4) h5 h6 h7 h8 h9 h10⟩
theorem neqPeS (a b : Pe) (W : World) : (binOp .neq 66 (.agg #[.bool a.en.ad.v6, .int .u64 a.en.ad.hi, .int .u64 a.en.ad.lo, .int .i64 a.en.port, .bool a.came, .int .i64 a.since, .int .i64 a.pts, .int .i64 a.at_, .int .i64 a.ping, .int .i64 a.work]) (.agg #[.bool b.en.ad.v6, .int .u64 b.en.ad.hi, .int .u64 b.en.ad.lo, .int .i64 b.en.port, .bool b.came, .int .i64 b.since, .int .i64 b.pts, .int .i64 b.at_, .int .i64 b.ping, .int .i64 b.work])).run Try.prog W = .ok (.bool (!decide (a = b))) W := by
  go_simp
  by_cases h : a = b
  · have e := (peIffS a b).1 h
    simp [e, h]
  · have e := fun e => h ((peIffS a b).2 e)
    simp only [h]
    repeat' split
    all_goals simp_all
/-- where it must be written -/
def wrtL (was now : List Pe) : List Nat := (List.range now.length).filter fun i => decide (was[i]? ≠ now[i]?)
def wrtK (was now : List Pe) (k : Nat) : List Nat := (List.range k).filter fun i => decide (was[i]? ≠ now[i]?)
theorem wrtK_succ (was now : List Pe) (k : Nat) : wrtK was now (k + 1) = if was[k]? ≠ now[k]? then wrtK was now k ++ [k] else wrtK was now k := by
  unfold wrtK
  rw [List.range_succ, List.filter_append]
  by_cases h : was[k]? ≠ now[k]? <;> simp [h]
theorem wrtK_len (was now : List Pe) (k : Nat) : (wrtK was now k).length ≤ k := Nat.le_trans (List.length_filter_le _ _) (by simp)
theorem ints_sameS (v u : Value) (L : List Nat) (w : World) (hv : Reads w v L.length 1 (L.map natV)) (hu : Reads w u L.length 1 (L.map natV)) :
    Calls Try.prog 47 #[v, u] w fun e w' => e = .returned (.bool true) ∧ Below w.heap.size w w' := by
  obtain ⟨_, hn, a, cap, rfl, ho⟩ := hv.open
  obtain ⟨_, _, a2, cap2, rfl, ho2⟩ := hu.open
  clear hv hu
  go_enter Try.func47, Try.ntmps47
  go_wp2_with fail
  go_loopw [5] (fun i wr => ∃ (k : Nat), k ≤ L.length ∧ i = .int .i64 k ∧ Below w.heap.size w wr) (fun i _ => L.length - (intOf i).toNat)
  case atStart => exact ⟨0, Nat.zero_le _, rfl, Below.refl _ _⟩
  case round =>
    obtain ⟨k, hk, rfl, hb⟩ := hrel
    by_cases hk2 : k < L.length
    · obtain ⟨b, o, rfl, hc, hlt, hx⟩ := ho (by omega)
      obtain ⟨b2, o2, rfl, hc2, hlt2, hx2⟩ := ho2 (by omega)
      have g1 := hx k (natV L[k]) (by rw [List.getElem?_map, List.getElem?_eq_getElem hk2]; rfl)
      have g2 := hx2 k (natV L[k]) (by rw [List.getElem?_map, List.getElem?_eq_getElem hk2]; rfl)
      generalize L[k] = x at g1 g2
      unfold natV at g1 g2
      have hz := hb.size
      have f1 := fun y => (ext_cell wr y (p := ⟨b, o + k, none⟩) (by show b < _; omega)).trans (keep hb hlt g1)
      have f2 := fun y => (ext_cell wr y (p := ⟨b2, o2 + k, none⟩) (by show b2 < _; omega)).trans (keep hb hlt2 g2)
      have q1 : (0 : Int) ≤ (k : Int) := by omega
      have q2 : (k : Int) < (L.length : Int) := by omega
      clear ho ho2 hx hx2 g1 g2
      go_wp2_with fail
      refine wp_region_ext (by kernel_rfl) (by kernel_rfl) ?_
      repeat (go_big_quiet_step (fail))
      refine wpQuiet_nil ?_
      intro _ hw'
      obtain ⟨gx, hw''⟩ := hw'
      subst hw''
      clear f1 f2
      have b8 := below2 hb (ext_below wr gx)
      go_wp2_with fail
      go_roundw
      case rel => exact ⟨k + 1, by omega, by go_num, b8⟩
      case measure => simp [intOf]; omega
    · go_wp2_with fail
      go_ret
      exact ⟨rfl, hb⟩
set_option maxRecDepth 100000 in
set_option maxHeartbeats 8000000 in
theorem refShWrites_any (v u : Value) (was now : List Pe) (w : World) (h : ReadsL peV 10 w v was) (h2 : ReadsL peV 10 w u now) (hl : now.length ≤ 1000000) :
    Calls Try.prog 49 #[v, u] w fun e w' => ∃ r, e = .returned r ∧ Reads w' r (wrtL was now).length 1 ((wrtL was now).map natV) ∧ Below w.heap.size w w' := by
  obtain ⟨hm, a0, c, rfl, h3⟩ := pes_open h
  obtain ⟨hm2, a2, c2, rfl, h32⟩ := pes_open h2
  have mixed : Try.prog.follows .mixedOrders = true := by kernel_rfl
  clear h h2
  have HMade : Hid ((w.alloc (.cells #[] 3)).ownsRow w.heap.size 3 1 (.slice (some ⟨w.heap.size, 0, none⟩) 0 0) 0 []) := own_made rfl (Nat.le_refl _)
  have HB0 : Hid (Below w.heap.size w (w.alloc (.cells #[] 3))) := (Below.refl _ _).alloc (Nat.le_refl _) _
  go_enter Try.func49, Try.ntmps49
  go_wp2_with fail
  go_loopw [5, 6] (fun u' i' wr => ∃ k : Nat, k ≤ now.length ∧ i' = .int .i64 k ∧ Hid (wr.ownsRow w.heap.size 3 1 u' (wrtK was now k).length ((wrtK was now k).map natV)) ∧ Hid (Below w.heap.size w wr)) (fun _ i' _ => now.length - (intOf i').toNat)
  case atStart => exact ⟨0, by omega, rfl, HMade.out, HB0.out⟩
  case round =>
    clear HMade HB0
    obtain ⟨k, hk, rfl, HU, HB⟩ := hrel
    by_cases hlt : k < now.length
    · obtain ⟨x, hx⟩ : ∃ x, now[k]? = some x := ⟨_, List.getElem?_eq_getElem hlt⟩
      obtain ⟨b, o, rfl, h4, h5, h6⟩ := h32 (by omega)
      have hbl := Nat.lt_of_lt_of_le h5 HB.out.size
      have KX : ∀ Y, PeIn (Go.Proofs.Ytppmjbnhghaffaa.ext wr Y) b (o + k * 10) x := fun Y => ((h6 k x hx).below HB.out h5).below (ext_below wr Y) hbl
      have x0 := fun y => (KX y).1; have x1 := fun y => (KX y).2.1; have x2 := fun y => (KX y).2.2.1; have x3 := fun y => (KX y).2.2.2.1; have x4 := fun y => (KX y).2.2.2.2.1; have x5 := fun y => (KX y).2.2.2.2.2.1; have x6 := fun y => (KX y).2.2.2.2.2.2.1; have x7 := fun y => (KX y).2.2.2.2.2.2.2.1; have x8 := fun y => (KX y).2.2.2.2.2.2.2.2.1; have x9 := fun y => (KX y).2.2.2.2.2.2.2.2.2
      have q1 : (0 : Int) ≤ (k : Int) := by omega
      have q2 : (k : Int) < (now.length : Int) := by omega
      have hS := wrtK_succ was now k
      rw [hx] at hS
      have HS := Lib.hid hS
      have hcl := wrtK_len was now k
      clear hx hS h6 KX h32
      have yes : ∀ (gx : Grow), Hid (Below w.heap.size w (Go.Proofs.Ytppmjbnhghaffaa.ext wr gx)) := fun gx => HB.out.trans ((ext_below wr gx).mono HB.out.size)
      have HL : Hid ((wrtK was now k ++ [k]).length = (wrtK was now k).length + 1) := by show _ = _; simp
      have HFl : Hid ((wrtK was now k ++ [k]).map natV = (wrtK was now k).map natV ++ [natV k]) := by show _ = _; simp
      by_cases hw : k < was.length
      · obtain ⟨y, hy⟩ : ∃ y, was[k]? = some y := ⟨_, List.getElem?_eq_getElem hw⟩
        obtain ⟨b2, o2, rfl, h42, h52, h62⟩ := h3 (by omega)
        have hbl2 := Nat.lt_of_lt_of_le h52 HB.out.size
        have KY : ∀ Y, PeIn (Go.Proofs.Ytppmjbnhghaffaa.ext wr Y) b2 (o2 + k * 10) y := fun Y => ((h62 k y hy).below HB.out h52).below (ext_below wr Y) hbl2
        have y0 := fun y => (KY y).1; have y1 := fun y => (KY y).2.1; have y2 := fun y => (KY y).2.2.1; have y3 := fun y => (KY y).2.2.2.1; have y4 := fun y => (KY y).2.2.2.2.1; have y5 := fun y => (KY y).2.2.2.2.2.1; have y6 := fun y => (KY y).2.2.2.2.2.2.1; have y7 := fun y => (KY y).2.2.2.2.2.2.2.1; have y8 := fun y => (KY y).2.2.2.2.2.2.2.2.1; have y9 := fun y => (KY y).2.2.2.2.2.2.2.2.2
        rw [hy] at HS
        have q3 : (k : Int) < (was.length : Int) := by omega
        have q3d : decide ((was.length : Int) ≤ (k : Int)) = false := decide_eq_false (by omega)
        have q3e : decide (was.length ≤ k) = false := decide_eq_false (by omega)
        have hNE := neqPeS y x
        clear hy h62 KY h3
        by_cases hq : y = x
        · have hqd : (!decide (y = x)) = false := by simp [hq]
          rw [hqd] at hNE
          have HN : Hid (wrtK was now (k + 1) = wrtK was now k) := by show _ = _; rw [HS.out, if_neg (by simp [hq])]
          clear hq hqd
          go_wp2_with fail
          refine wp_region_ext (by kernel_rfl) (by kernel_rfl) ?_
          repeat (go_big_quiet_step (fail))
          refine wpQuiet_nil ?_
          intro _ hw'
          obtain ⟨gx, HW⟩ := hw'
          subst HW
          clear x0 x1 x2 x3 x4 x5 x6 x7 x8 x9 y0 y1 y2 y3 y4 y5 y6 y7 y8 y9 hNE
          go_wp2_with fail
          go_roundw
          case rel => exact ⟨k + 1, by omega, by go_num, by rw [HN.out]; exact owns_below HU.out (ext_below wr gx), (yes gx).out⟩
          case measure => simp [intOf]; omega
        · have hqd : (!decide (y = x)) = true := by simp [hq]
          rw [hqd] at hNE
          have HN : Hid (wrtK was now (k + 1) = wrtK was now k ++ [k]) := by show _ = _; rw [HS.out, if_pos (by simpa using hq)]
          clear hq hqd
          go_wp2_with fail
          refine wp_region_ext (by kernel_rfl) (by kernel_rfl) ?_
          repeat (go_big_quiet_step (fail))
          refine wpQuiet_nil ?_
          intro _ hw'
          obtain ⟨gx, HW⟩ := hw'
          subst HW
          have HU6 := Lib.hid (owns_below HU.out (ext_below wr gx)); have HB6 := yes gx
          clear x0 x1 x2 x3 x4 x5 x6 x7 x8 x9 y0 y1 y2 y3 y4 y5 y6 y7 y8 y9 hNE yes HU HB
          generalize Go.Proofs.Ytppmjbnhghaffaa.ext wr gx = W6 at *
          have HW6 : Hid (w.heap.size ≤ W6.heap.size) := HB6.out.size
          go_wp2_with (at_builtin; refine list_app_reads intRow rfl (.tmp 29) (.tmp 31) rfl w.heap.size _ (wrtK was now k).length ((wrtK was now k).map natV) rfl (HU6.out.alloc _) _ 1 [natV k] rfl (reads_one (us := [natV k]) rfl (Nat.succ_pos 0)) (natV_one k) (by omega) (by omega) (by have := HW6.out; simp; omega) w.heap.size W6 ((Below.refl _ _).alloc HW6.out _) (Nat.le_refl _) ?_; intro v7 w7 o7 b7)
          go_roundw
          case rel => exact ⟨k + 1, by omega, by go_num, by rw [HN.out, HL.out, HFl.out]; exact o7, HB6.out.trans b7⟩
          case measure => simp [intOf]; omega
      · have hy : was[k]? = none := List.getElem?_eq_none (by omega)
        rw [hy] at HS
        have q3d : decide ((was.length : Int) ≤ (k : Int)) = true := decide_eq_true (by omega)
        have q3e : decide (was.length ≤ k) = true := decide_eq_true (by omega)
        have HN : Hid (wrtK was now (k + 1) = wrtK was now k ++ [k]) := by show _ = _; rw [HS.out, if_pos (by simp)]
        clear hy h3
        go_wp2_with fail
        refine wp_region_ext (by kernel_rfl) (by kernel_rfl) ?_
        repeat (go_big_quiet_step (fail))
        refine wpQuiet_nil ?_
        intro _ hw'
        obtain ⟨gx, HW⟩ := hw'
        subst HW
        have HU6 := Lib.hid (owns_below HU.out (ext_below wr gx)); have HB6 := yes gx
        clear x0 x1 x2 x3 x4 x5 x6 x7 x8 x9 yes HU HB
        generalize Go.Proofs.Ytppmjbnhghaffaa.ext wr gx = W6 at *
        have HW6 : Hid (w.heap.size ≤ W6.heap.size) := HB6.out.size
        go_wp2_with (at_builtin; refine list_app_reads intRow rfl (.tmp 29) (.tmp 31) rfl w.heap.size _ (wrtK was now k).length ((wrtK was now k).map natV) rfl (HU6.out.alloc _) _ 1 [natV k] rfl (reads_one (us := [natV k]) rfl (Nat.succ_pos 0)) (natV_one k) (by omega) (by omega) (by have := HW6.out; simp; omega) w.heap.size W6 ((Below.refl _ _).alloc HW6.out _) (Nat.le_refl _) ?_; intro v7 w7 o7 b7)
        go_roundw
        case rel => exact ⟨k + 1, by omega, by go_num, by rw [HN.out, HL.out, HFl.out]; exact o7, HB6.out.trans b7⟩
        case measure => simp [intOf]; omega
    · obtain rfl : k = now.length := by omega
      go_wp2_with fail
      go_ret
      exact ⟨_, rfl, owns_reads HU.out, HB.out⟩
end Go.Proofs.Ytppmjbnhghaffaa
