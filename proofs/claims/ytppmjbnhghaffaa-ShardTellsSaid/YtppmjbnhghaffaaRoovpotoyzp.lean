/- Texts put together: ShL. No condition. -/
import Derived.Test.YtppmjbnhghaffaaRazrkojhjbw
namespace Go.Proofs.Ytppmjbnhghaffaa
open Go.RowKit Go.Lib
set_option linter.unusedSimpArgs false
set_option linter.unusedVariables false

/-- the same sizes, the same peers -/
def AlikeS (A B : List Sh) : Prop := A.length = B.length ∧ ∀ (i : Nat) (x y : Sh), A[i]? = some x → B[i]? = some y → x.size = y.size ∧ x.l = y.l
theorem parts_alike {A B : List Sh} {l : List Pe} {s : Nat} {n : Int} (h1 : PartsOf A l s n) (h2 : PartsOf B l s n) : AlikeS A B :=
  ⟨h1.1.trans h2.1.symm, fun i x y hx hy => ⟨(h1.2 i x hx).1.trans (h2.2 i y hy).1.symm, (h1.2 i x hx).2.trans (h2.2 i y hy).2.symm⟩⟩
set_option maxRecDepth 100000 in
set_option maxHeartbeats 16000000 in
theorem parts_same (u v : Value) (A B : List Sh) (w : World) (h1 : ReadsSh w u A) (h2 : ReadsSh w v B) (hE : AlikeS A B) :
    Calls Try.prog 50 #[u, v] w fun e w' => e = .returned (.bool true) ∧ Below w.heap.size w w' := by
  obtain ⟨hm, a0, c, rfl, h3⟩ := shs_open h1.1
  obtain ⟨hm2, a2, c2, rfl, h32⟩ := shs_open h2.1
  have HR1 := Lib.hid h1.2; have HR2 := Lib.hid h2.2; have HE := Lib.hid hE
  obtain ⟨n, hn⟩ : ∃ n, n = A.length := ⟨_, rfl⟩
  have hnB : B.length = n := by rw [hn]; exact hE.1.symm
  rw [← hn] at h3
  rw [hnB] at h32
  rw [← hn, hnB]
  rw [← hn] at hm
  have HN := Lib.hid hn; have HNB := Lib.hid hnB
  have mixed : Try.prog.follows .mixedOrders = true := by kernel_rfl
  clear h1 h2 hE hn hnB hm2
  go_enter Try.func50, Try.ntmps50
  go_wp2_with fail
  go_loopw [5] (fun i' wr => ∃ k : Nat, k ≤ n ∧ i' = .int .i64 k ∧ Hid (Below w.heap.size w wr)) (fun i' _ => n - (intOf i').toNat)
  case atStart => exact ⟨0, by omega, rfl, Below.refl _ _⟩
  case round =>
    obtain ⟨k, hk, rfl, HB⟩ := hrel
    by_cases hlt : k < n
    · obtain ⟨⟨z, v1, L⟩, hx⟩ : ∃ x, A[k]? = some x := ⟨_, List.getElem?_eq_getElem (by have := HN.out; omega)⟩
      obtain ⟨⟨z2, v2, L2⟩, hy⟩ : ∃ x, B[k]? = some x := ⟨_, List.getElem?_eq_getElem (by have := HNB.out; omega)⟩
      obtain ⟨e1, e2⟩ := HE.out.2 k _ _ hx hy
      simp only at e1 e2
      subst e1 e2
      obtain ⟨b, o, rfl, h4, h5, h6⟩ := h3 (by omega)
      obtain ⟨b2, o2, rfl, h42, h52, h62⟩ := h32 (by omega)
      have hc1 := h6 k _ hx
      have hc2 := h62 k _ hy
      have hr1 := HR1.out _ (List.mem_of_getElem? hx)
      have hr2 := HR2.out _ (List.mem_of_getElem? hy)
      simp only at hc1 hc2 hr1 hr2
      obtain ⟨hmL, p1, d1, rfl, h3a⟩ := pes_open hr1
      obtain ⟨_, p2, d2, rfl, h3b⟩ := pes_open hr2
      have q1 : (0 : Int) ≤ (k : Int) := by omega
      have q2 : (k : Int) < (n : Int) := by omega
      have HC1 := Lib.hid hc1; have HC2 := Lib.hid hc2; have HLb := Lib.hid h5; have HLb2 := Lib.hid h52
      have f1 := fun y => (ext_cell wr y (p := ⟨b, o + k * 2, none⟩) (Nat.lt_of_lt_of_le h5 HB.out.size)).trans (keep HB.out h5 hc1.1)
      have f2 := fun y => (ext_cell wr y (p := ⟨b, o + k * 2 + 1, none⟩) (Nat.lt_of_lt_of_le h5 HB.out.size)).trans (keep HB.out h5 hc1.2)
      have f3 := fun y => (ext_cell wr y (p := ⟨b2, o2 + k * 2, none⟩) (Nat.lt_of_lt_of_le h52 HB.out.size)).trans (keep HB.out h52 hc2.1)
      have f4 := fun y => (ext_cell wr y (p := ⟨b2, o2 + k * 2 + 1, none⟩) (Nat.lt_of_lt_of_le h52 HB.out.size)).trans (keep HB.out h52 hc2.2)
      clear hx hy h6 h62 hc1 hc2 hr1 hr2 h3 h32 h5 h52
      go_wp2_with fail
      refine wp_region_ext (by kernel_rfl) (by kernel_rfl) ?_
      repeat (go_big_quiet_step (fail))
      refine wpQuiet_nil ?_
      intro _ hw'
      obtain ⟨gx, hw''⟩ := hw'
      subst hw''
      have HB1 := Lib.hid (below2 HB.out (ext_below wr gx))
      clear f1 f2 f3 f4 HB
      generalize Go.Proofs.Ytppmjbnhghaffaa.ext wr gx = wo at *
      go_wp2_with fail
      go_loopw [6] (fun i' wr => ∃ i : Nat, i ≤ L.length ∧ i' = .int .i64 i ∧ Hid (Below w.heap.size w wr)) (fun i' _ => L.length - (intOf i').toNat)
      case atStart => exact ⟨0, by omega, rfl, HB1.out⟩
      case round =>
        clear HB1
        obtain ⟨i, hi, rfl, HB⟩ := hrel
        have p1' : (0 : Int) ≤ (i : Int) := by omega
        have s1 := keep HB.out HLb.out HC1.out.1
        have s2 := keep HB.out HLb.out HC1.out.2
        have s3 := keep HB.out HLb2.out HC2.out.1
        have s4 := keep HB.out HLb2.out HC2.out.2
        by_cases hil : i < L.length
        · obtain ⟨x, hx⟩ : ∃ x, L[i]? = some x := ⟨_, List.getElem?_eq_getElem hil⟩
          obtain ⟨b3, o3, rfl, h43, h53, h63⟩ := h3a (by omega)
          obtain ⟨b4, o4, rfl, h44, h54, h64⟩ := h3b (by omega)
          have p2' : (i : Int) < (L.length : Int) := by omega
          have KX : ∀ Y, PeIn (Go.Proofs.Ytppmjbnhghaffaa.ext wr Y) b3 (o3 + i * 10) x := fun Y => ((h63 i x hx).below HB.out h53).below (ext_below wr Y) (Nat.lt_of_lt_of_le h53 HB.out.size)
          have KY : ∀ Y, PeIn (Go.Proofs.Ytppmjbnhghaffaa.ext wr Y) b4 (o4 + i * 10) x := fun Y => ((h64 i x hx).below HB.out h54).below (ext_below wr Y) (Nat.lt_of_lt_of_le h54 HB.out.size)
          have f2 := fun y => (ext_cell wr y (p := ⟨b, o + k * 2 + 1, none⟩) (Nat.lt_of_lt_of_le HLb.out HB.out.size)).trans s2
          have f4 := fun y => (ext_cell wr y (p := ⟨b2, o2 + k * 2 + 1, none⟩) (Nat.lt_of_lt_of_le HLb2.out HB.out.size)).trans s4
          have x0 := fun y => (KX y).1; have x1 := fun y => (KX y).2.1; have x2 := fun y => (KX y).2.2.1; have x3 := fun y => (KX y).2.2.2.1; have x4 := fun y => (KX y).2.2.2.2.1; have x5 := fun y => (KX y).2.2.2.2.2.1; have x6 := fun y => (KX y).2.2.2.2.2.2.1; have x7 := fun y => (KX y).2.2.2.2.2.2.2.1; have x8 := fun y => (KX y).2.2.2.2.2.2.2.2.1; have x9 := fun y => (KX y).2.2.2.2.2.2.2.2.2
          have y0 := fun y => (KY y).1; have y1 := fun y => (KY y).2.1; have y2 := fun y => (KY y).2.2.1; have y3 := fun y => (KY y).2.2.2.1; have y4 := fun y => (KY y).2.2.2.2.1; have y5 := fun y => (KY y).2.2.2.2.2.1; have y6 := fun y => (KY y).2.2.2.2.2.2.1; have y7 := fun y => (KY y).2.2.2.2.2.2.2.1; have y8 := fun y => (KY y).2.2.2.2.2.2.2.2.1; have y9 := fun y => (KY y).2.2.2.2.2.2.2.2.2
          have hNE := fun W => neqPe_one x W
          clear hx h63 h64 KX KY h3a h3b
          go_wp2_with fail
          refine wp_region_ext (by kernel_rfl) (by kernel_rfl) ?_
          repeat (go_big_quiet_step (fail))
          refine wpQuiet_nil ?_
          intro _ hw'
          obtain ⟨gx, hw''⟩ := hw'
          subst hw''
          clear x0 x1 x2 x3 x4 x5 x6 x7 x8 x9 y0 y1 y2 y3 y4 y5 y6 y7 y8 y9 hNE f2 f4 s1 s2 s3 s4
          go_wp2_with fail
          go_roundw
          case rel => exact ⟨i + 1, by omega, by go_num, below2 HB.out (ext_below wr gx)⟩
          case measure => simp [intOf]; omega
        · obtain rfl : i = L.length := by omega
          go_wp2_with fail
          go_roundw
          case rel => exact ⟨k + 1, by omega, by go_num, HB.out⟩
          case measure => simp [intOf]; omega
    · obtain rfl : k = n := by omega
      go_wp2_with fail
      go_ret
      exact ⟨rfl, HB.out⟩
set_option maxRecDepth 100000 in
set_option maxHeartbeats 8000000 in
theorem light31_any (v : Value) (ss : List Sh) (w : World) (h : ReadsSh w v ss) :
    Calls Try.prog 40 #[v] w fun e w' => ∃ b : Bool, e = .returned (.bool b) ∧ (b = true → ss.length ≤ 10 ∧ ∀ s ∈ ss, s.l.length ≤ 30) ∧ Below w.heap.size w w' := by
  obtain ⟨hm, a0, c, rfl, h3⟩ := shs_open h.1
  have HR := Lib.hid h.2
  clear h
  go_enter Try.func40, Try.ntmps40
  go_wp2_with fail
  go_loopw [3] (fun i' wr => ∃ k : Nat, k ≤ ss.length ∧ k ≤ 10 ∧ i' = .int .i64 k ∧ Hid (∀ i s, i < k → ss[i]? = some s → s.l.length ≤ 30) ∧ Hid (Below w.heap.size w wr)) (fun i' _ => ss.length - (intOf i').toNat)
  case atStart => exact ⟨0, by omega, by omega, rfl, fun i s hi => absurd hi (Nat.not_lt_zero _), Below.refl _ _⟩
  case round =>
    obtain ⟨k, hk, hk10, rfl, HL, HB⟩ := hrel
    have q1 : (0 : Int) ≤ (k : Int) := by omega
    by_cases hlt : k < ss.length
    · have q2 : (k : Int) < (ss.length : Int) := by omega
      by_cases h10 : k < 10
      · have q3 : (k : Int) < 10 := by omega
        have q3d : decide ((k : Int) < 10) = true := decide_eq_true q3
        have q3e : decide (k < 10) = true := decide_eq_true h10
        obtain ⟨⟨z, v1, L⟩, hx⟩ : ∃ x, ss[k]? = some x := ⟨_, List.getElem?_eq_getElem hlt⟩
        obtain ⟨b, o, rfl, h4, h5, h6⟩ := h3 (by omega)
        have hc := h6 k _ hx
        have hr := HR.out _ (List.mem_of_getElem? hx)
        simp only at hc hr
        obtain ⟨hmL, p1, d1, rfl, -⟩ := pes_open hr
        have s1 := keep HB.out h5 hc.1; have s2 := keep HB.out h5 hc.2
        have HX := Lib.hid hx
        clear hx h6 hc hr h3
        by_cases hL : L.length ≤ 30
        · have q4 : ¬ (30 : Int) < (L.length : Int) := by omega
          have q5 : ¬ 30 < L.length := by omega
          go_wp2_with fail
          go_roundw
          case rel =>
            refine ⟨k + 1, by omega, by omega, by go_num, fun i s hi hs => ?_, HB.out⟩
            rcases Nat.lt_or_ge i k with e | e
            · exact HL.out i s e hs
            · rw [show i = k by omega, HX.out] at hs
              injection hs with hs
              subst hs; exact hL
          case measure => simp [intOf]; omega
        · have q4 : (30 : Int) < (L.length : Int) := by omega
          have q5 : 30 < L.length := by omega
          go_wp2_with fail
          go_ret
          exact ⟨false, rfl, (fun e => absurd e (by decide)), HB.out⟩
      · have q3 : ¬ (k : Int) < 10 := by omega
        have q3d : decide ((k : Int) < 10) = false := decide_eq_false q3
        have q3e : decide (k < 10) = false := decide_eq_false h10
        have q6 : ¬ (ss.length : Int) ≤ 10 := by omega
        have q7 : ¬ ss.length ≤ 10 := by omega
        clear h3
        go_wp2_with fail
        go_ret
        first | exact ⟨rfl, HB.out⟩ | exact ⟨false, rfl, (fun e => absurd e (by decide)), HB.out⟩
    · obtain rfl : k = ss.length := by omega
      have q6 : (ss.length : Int) ≤ 10 := by omega
      have HT : Hid (∀ s ∈ ss, s.l.length ≤ 30) := fun s hs => by
        obtain ⟨i, hi⟩ := List.mem_iff_getElem?.1 hs
        exact HL.out i s (List.getElem?_eq_some_iff.1 hi).1 hi
      clear h3
      go_wp2_with fail
      go_ret
      exact ⟨true, rfl, (fun _ => ⟨hk10, HT.out⟩), HB.out⟩
end Go.Proofs.Ytppmjbnhghaffaa
