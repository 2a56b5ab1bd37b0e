/- The contracts of the heap's reference: Put, Sorted. -/
import Derived.Test.YtppmjbnhghaffaaHeapF
namespace Go.Proofs.Ytppmjbnhghaffaa
open Go.RowKit

theorem put_at (l : List It) (x : It) (k : Nat) (hk : k ≤ l.length) (h1 : ∀ j y, j < k → l[j]? = some y → itLt x y = false) (h2 : ∀ y, l[k]? = some y → itLt x y = true) : Hp.put itLt l x = l.take k ++ [x] ++ l.drop k := by
  induction l generalizing k with
  | nil => simp at hk; subst hk; rfl
  | cons y t ih =>
    unfold Hp.put
    cases k with
    | zero => rw [if_pos (h2 y rfl)]; simp
    | succ k =>
      rw [if_neg (by rw [h1 0 y (by omega) rfl]; simp), ih k (by simpa using hk) (fun j z hj hz => h1 (j + 1) z (by omega) (by simpa using hz)) (fun z hz => h2 z (by simpa using hz))]
      simp
theorem below_sub {w W w3 : World} (h1 : Below w.heap.size w W) (h2 : Below W.heap.size W w3) : Below w.heap.size w w3 := below2 h1 h2
set_option maxRecDepth 100000 in
set_option maxHeartbeats 2000000 in
theorem refPut_any (b o c : Nat) (l : List It) (x : It) (w : World) (h : ReadsL itV 5 w (.slice (some ⟨b, o, none⟩) l.length c) l) (hc : l.length ≤ c) (hl : l.length ≤ 100000) : Calls Try.prog 38 #[.slice (some ⟨b, o, none⟩) l.length c, .agg #[.int .i64 x.key, .bool x.en.ad.v6, .int .u64 x.en.ad.hi, .int .u64 x.en.ad.lo, .int .i64 x.en.port]] w (GivesL itV 39 5 w (Hp.put itLt l x)) := by
  have h3 : 0 < l.length → b < w.heap.size ∧ ∀ (i : Nat) (x : It), l[i]? = some x → itAt w b (o + i * 5) x := fun hp => by
    obtain ⟨_, a', c', e, h3⟩ := it_open h
    obtain ⟨b', o', e2, _, h5, h6⟩ := h3 hp
    injection e with e _ _
    rw [e2] at e; injection e with e; injection e with e3 e4
    subst e3; subst e4; exact ⟨h5, h6⟩
  have HV := Lib.hid h; clear h
  have z0 : w.heap.size < w.heap.size + 1 := by omega
  go_enter Try.func38, Try.ntmps38
  go_wp2_with fail
  go_loopw [5] (fun s5 wr => ∃ k : Nat, s5 = .int .i64 k ∧ k ≤ l.length ∧ Hid (∀ j y, j < k → l[j]? = some y → itLt x y = false) ∧ Below (w.heap.size + 1) (w.alloc (.cells #[.int .i64 x.key, .bool x.en.ad.v6, .int .u64 x.en.ad.hi, .int .u64 x.en.ad.lo, .int .i64 x.en.port] 39)) wr) (fun s5 _ => l.length - (intOf s5).toNat)
  case atStart => exact ⟨0, rfl, by omega, fun j y hj => by omega, Below.refl _ _⟩
  case round =>
    obtain ⟨k, rfl, hk, HK, hb⟩ := hrel
    have hb0 : Below w.heap.size w wr := ((Below.refl _ _).alloc (Nat.le_refl _) _).trans (hb.mono (by omega))
    have hz : w.heap.size < wr.heap.size := by have := hb.size; simp at this; omega
    have hX : itAt wr w.heap.size 0 x := itAt_below (w := w.alloc (.cells #[.int .i64 x.key, .bool x.en.ad.v6, .int .u64 x.en.ad.hi, .int .u64 x.en.ad.lo, .int .i64 x.en.port] 39)) ⟨by simp [go_sem], by simp [go_sem], by simp [go_sem], by simp [go_sem], by simp [go_sem]⟩ hb (by omega)
    by_cases hlt : k < l.length
    · obtain ⟨h5, h6⟩ := h3 (by omega)
      have hd : decide ((k : Int) < (l.length : Int)) = true := by simpa using hlt
      obtain ⟨y, hy⟩ : ∃ y, l[k]? = some y := ⟨_, List.getElem?_eq_getElem hlt⟩
      have X := fun q => itAt_ext hX q hz
      have P := fun q => itAt_ext (itAt_below (h6 k y hy) hb0 h5) q (Nat.lt_of_lt_of_le h5 hb0.size)
      have x0 := fun q => (X q).1; have x1 := fun q => (X q).2.1; have x2 := fun q => (X q).2.2.1; have x3 := fun q => (X q).2.2.2.1; have x4 := fun q => (X q).2.2.2.2
      have p0 := fun q => (P q).1; have p1 := fun q => (P q).2.1; have p2 := fun q => (P q).2.2.1; have p3 := fun q => (P q).2.2.2.1; have p4 := fun q => (P q).2.2.2.2
      simp only [Nat.zero_add] at x1 x2 x3 x4
      have q1 : (0 : Int) ≤ (k : Int) := by omega
      have q2 : (k : Int) < (l.length : Int) := by omega
      have HY := Lib.hid hy
      have hck : ¬ c = k := by omega
      clear hy X P h6 h3
      go_wp2_with fail
      refine wp_region_ext (by kernel_rfl) (by kernel_rfl) ?_
      repeat (go_big_quiet_step ((go_at_call 32; exact qe (refAhead_any x y _))))
      refine wpQuiet_nil ?_
      intro _ hw'
      obtain ⟨q, hw''⟩ := hw'
      subst hw''
      clear x0 x1 x2 x3 x4 p0 p1 p2 p3 p4
      have hb2 := hb.trans ((ext_below wr q).mono hz)
      cases hl2 : itLt x y
      · have HL2 := Lib.hid hl2
        clear hl2
        go_wp2_with fail
        go_roundw
        case rel => exact ⟨k + 1, by go_num, by omega, fun j z hj hz => by
          by_cases e : j = k
          · subst e; have := HY.out; rw [hz] at this; injection this with this; subst this; exact HL2.out
          · exact HK.out j z (by omega) hz, hb2⟩
        case measure => simp [intOf]; omega
      · have HL2 := Lib.hid hl2
        clear hl2
        go_wp2_with fail
        have hXW := itAt_below (itAt_ext hX q hz) (Below.refl _ _) (Nat.lt_of_lt_of_le hz (ext_below wr q).size)
        have h0 := HV.out.below (hb0.trans ((ext_below wr q).mono hb0.size))
        have hT : Reads (ext wr q) (.slice (some ⟨b, o, none⟩) k c) k 5 ((l.take k).flatMap itV) := by
          have := Reads.take h0 k hk c
          rw [flat_take itV 5 itV_len] at this
          rcases this with h | h
          · exact h
          · omega
        have hD : ∀ d, l.length - k ≤ d → Reads (ext wr q) (.slice (some ⟨b, o + k * 5, none⟩) (l.length - k) d) (l.length - k) 5 ((l.drop k).flatMap itV) := fun d hd => by
          have := Reads.drop h0 k hk d hd
          rw [flat_drop itV 5 itV_len] at this
          exact this
        have hD2 : l.length = k → ∀ d, Reads (ext wr q) (.slice (some ⟨b, o, none⟩) (l.length - k) d) (l.length - k) 5 ((l.drop k).flatMap itV) := fun e d => by
          rw [List.drop_eq_nil_of_le (by omega), show l.length - k = 0 from by omega]
          exact ⟨rfl, by omega, Or.inl ⟨rfl, _, _, rfl⟩⟩
        have hzW : w.heap.size < (ext wr q).heap.size := Nat.lt_of_lt_of_le hz (ext_below wr q).size
        have hbW : Below w.heap.size w (ext wr q) := hb0.trans ((ext_below wr q).mono hb0.size)
        have HP := Lib.hid (put_at l x k hk HK.out (by intro y hy; have := HY.out; rw [hy] at this; injection this with this; subst this; exact HL2.out))
        clear h0 hb hb0 hX
        generalize ext wr q = W at *
        obtain ⟨x0, x1, x2, x3, x4⟩ := hXW
        simp only [Nat.zero_add] at x1 x2 x3 x4
        have RA : Hid (Reads (((W.alloc (.cells #[] 39)).alloc (.cells #[.int .i64 x.key, .bool x.en.ad.v6, .int .u64 x.en.ad.hi, .int .u64 x.en.ad.lo, .int .i64 x.en.port] 39)).drew) (.slice (some ⟨W.heap.size + 1, 0, none⟩) 1 1) 1 5 (itV x)) := reads_one1 (us := itV x) rfl (Nat.succ_pos 4)
        have RB : Hid (Reads (((W.alloc (.cells #[.int .i64 x.key, .bool x.en.ad.v6, .int .u64 x.en.ad.hi, .int .u64 x.en.ad.lo, .int .i64 x.en.port] 39)).alloc (.cells #[] 39)).drew) (.slice (some ⟨W.heap.size, 0, none⟩) 1 1) 1 5 (itV x)) := Reads.below (reads_one (us := itV x) rfl (Nat.succ_pos 4)) ((Below.refl _ _).alloc (Nat.le_refl _) _).drew
        have OA : Hid ((W.alloc (.cells #[] 39)).drew.ownsRow W.heap.size 39 5 (.slice (some ⟨W.heap.size, 0, none⟩) 0 0) 0 []) := World.ownsRow_made W #[] 0 (Nat.le_refl _) (Nat.zero_le _) rfl
        have OB : Hid (((W.alloc (.cells #[.int .i64 x.key, .bool x.en.ad.v6, .int .u64 x.en.ad.hi, .int .u64 x.en.ad.lo, .int .i64 x.en.port] 39)).alloc (.cells #[] 39)).drew.ownsRow W.heap.size 39 5 (.slice (some ⟨W.heap.size + 1, 0, none⟩) 0 0) 0 []) := by
          have := World.ownsRow_made (base := W.heap.size) (e := 39) (size := 5) (W.alloc (.cells #[.int .i64 x.key, .bool x.en.ad.v6, .int .u64 x.en.ad.hi, .int .u64 x.en.ad.lo, .int .i64 x.en.port] 39)) #[] 0 (by simp) (Nat.zero_le _) rfl
          simp only [World.size_alloc] at this
          exact this
        have HT := Lib.hid hT; have HD := Lib.hid hD; have HD2 := Lib.hid hD2; clear hT hD hD2
        have q5 : (k : Int) ≤ (c : Int) := by omega
        have q6 : k ≤ c := by omega
        have q7 : (k : Int) ≤ (l.length : Int) := by omega
        have q8 : (l.length : Int) ≤ (c : Int) := by omega
        have q9 : (0 : Int) ≤ (k : Int) := by omega
        go_region_held3 (fun w' => w'.cell? ⟨w.heap.size, 0, none⟩ = some (.int .i64 x.key) ∧ w'.cell? ⟨w.heap.size, 1, none⟩ = some (.bool x.en.ad.v6) ∧ w'.cell? ⟨w.heap.size, 2, none⟩ = some (.int .u64 x.en.ad.hi) ∧ w'.cell? ⟨w.heap.size, 3, none⟩ = some (.int .u64 x.en.ad.lo) ∧ w'.cell? ⟨w.heap.size, 4, none⟩ = some (.int .i64 x.en.port)) (first | go_keep | (simp (disch := omega) [*])) (first | (refine step_app_reads_g refItRow (by rfl) (.tmp 22) (.tmp 25) (by rfl) W.heap.size (.slice (some ⟨W.heap.size, 0, none⟩) 0 0) 0 [] (by rfl) OA.out (.slice (some ⟨b, o, none⟩) k c) k ((l.take k).flatMap itV) (by rfl) (Reads.below HT.out (by go_grown)) (itV_one _) (by omega) (by omega) (by first | omega | (simp; done) | (simp; omega)) ?_; intro v1 w1 hown1 hgr1; have hB1 : Below W.heap.size W w1 := below_grown OA.out (by go_grown) (Nat.le_refl _) (by first | omega | (simp; done) | (simp; omega)) hgr1; obtain ⟨cf1, _⟩ := bcellB hB1) | (refine step_app_reads_g refItRow (by rfl) (.tmp 22) (.tmp 25) (by rfl) W.heap.size (.slice (some ⟨W.heap.size, 0, none⟩) 0 0) 0 [] (by rfl) (OA.out.alloc _) (.slice (some ⟨b, o, none⟩) k c) k ((l.take k).flatMap itV) (by rfl) (Reads.below HT.out (by go_grown)) (itV_one _) (by omega) (by omega) (by first | omega | (simp; done) | (simp; omega)) ?_; intro v1 w1 hown1 hgr1; have hB1 : Below W.heap.size W w1 := below_grown (OA.out.alloc _) (by go_grown) (Nat.le_refl _) (by first | omega | (simp; done) | (simp; omega)) hgr1; obtain ⟨cf1, _⟩ := bcellB hB1) | (refine step_app_reads_g refItRow (by rfl) (.tmp 22) (.tmp 25) (by rfl) W.heap.size (.slice (some ⟨W.heap.size + 1, 0, none⟩) 0 0) 0 [] (by rfl) OB.out (.slice (some ⟨b, o, none⟩) k c) k ((l.take k).flatMap itV) (by rfl) (Reads.below HT.out (by go_grown)) (itV_one _) (by omega) (by omega) (by first | omega | (simp; done) | (simp; omega)) ?_; intro v1 w1 hown1 hgr1; have hB1 : Below W.heap.size W w1 := below_grown OB.out (by go_grown) (Nat.le_refl _) (by first | omega | (simp; done) | (simp; omega)) hgr1; obtain ⟨cf1, _⟩ := bcellB hB1) | (refine step_app_reads_g refItRow (by rfl) (.tmp 26) (.tmp 28) (by rfl) W.heap.size v1 (0 + k) ([] ++ (l.take k).flatMap itV) (by rfl) (hown1.alloc _) _ 1 (itV x) (by rfl) (reads_one (us := itV x) rfl (Nat.succ_pos 4)) (itV_one1 x) (by omega) (by omega) (Nat.le_trans hB1.size (by first | omega | (simp; done) | (simp; omega))) ?_; intro v2 w2 hown2 hgr2; have hB2 : Below W.heap.size W w2 := below_grown (hown1.alloc _) (hB1.alloc hB1.size _) (Nat.le_refl _) (Nat.le_trans hB1.size (by first | omega | (simp; done) | (simp; omega))) hgr2; obtain ⟨cf2, _⟩ := bcellB hB2) | (refine step_app_reads_g refItRow (by rfl) (.tmp 26) (.tmp 28) (by rfl) W.heap.size v1 (0 + k) ([] ++ (l.take k).flatMap itV) (by rfl) hown1 _ 1 (itV x) (by rfl) (far_reads hgr1 RA.out (by omega)) (itV_one1 x) (by omega) (by omega) (Nat.le_trans hB1.size (by first | omega | (simp; done) | (simp; omega))) ?_; intro v2 w2 hown2 hgr2; have hB2 : Below W.heap.size W w2 := below_grown hown1 hB1 (Nat.le_refl _) (Nat.le_trans hB1.size (by first | omega | (simp; done) | (simp; omega))) hgr2; obtain ⟨cf2, _⟩ := bcellB hB2) | (refine step_app_reads_g refItRow (by rfl) (.tmp 26) (.tmp 28) (by rfl) W.heap.size v1 (0 + k) ([] ++ (l.take k).flatMap itV) (by rfl) hown1 _ 1 (itV x) (by rfl) (far_reads hgr1 RB.out (by omega)) (itV_one1 x) (by omega) (by omega) (Nat.le_trans hB1.size (by first | omega | (simp; done) | (simp; omega))) ?_; intro v2 w2 hown2 hgr2; have hB2 : Below W.heap.size W w2 := below_grown hown1 hB1 (Nat.le_refl _) (Nat.le_trans hB1.size (by first | omega | (simp; done) | (simp; omega))) hgr2; obtain ⟨cf2, _⟩ := bcellB hB2))
        all_goals
          clear RA RB OA OB cf1 cf2 hgr1 hgr2 hown1
          go_wp2_with (at_builtin; refine list_app_reads refItRow rfl (.tmp 30) (.tmp 33) rfl W.heap.size v2 (0 + k + 1) _ rfl hown2 _ (l.length - k) ((l.drop k).flatMap itV) rfl (by first | exact Reads.below (HD.out _ (by omega)) hB2 | exact Reads.below (HD2.out (by omega) _) hB2) (itV_one _) (by omega) (by omega) hB2.size W.heap.size W hB2 (Nat.le_refl _) ?_; intro v3 w3 hown3 hB3)
          go_ret
          refine ⟨_, rfl, ?_, below_sub hbW hB3⟩
          rw [HP.out]
          have e1 : (l.take k ++ [x] ++ l.drop k).length = 0 + k + 1 + (l.length - k) := by simp; omega
          rw [e1]
          have e2 : (l.take k ++ [x] ++ l.drop k).flatMap itV = [] ++ (l.take k).flatMap itV ++ itV x ++ (l.drop k).flatMap itV := by simp
          rw [e2]
          exact owns_base hown3 (Nat.le_of_lt hzW)
    · have hd : decide ((k : Int) < (l.length : Int)) = false := decide_eq_false (by omega)
      go_wp2_with fail
      refine wp_region_ext (by kernel_rfl) (by kernel_rfl) ?_
      repeat (go_big_quiet_step (fail))
      refine wpQuiet_nil ?_
      intro _ hw'
      obtain ⟨q, hw''⟩ := hw'
      subst hw''
      go_wp2_with fail
      by_cases hck : c = k
      · subst hck
        have hXW := itAt_below (itAt_ext hX q hz) (Below.refl _ _) (Nat.lt_of_lt_of_le hz (ext_below wr q).size)
        have h0 := HV.out.below (hb0.trans ((ext_below wr q).mono hb0.size))
        have hT : Reads (ext wr q) (.slice (some ⟨b, o, none⟩) c c) c 5 ((l.take c).flatMap itV) := by
          have := Reads.take h0 c hk c
          rw [flat_take itV 5 itV_len] at this
          rcases this with h | h
          · exact h
          · omega
        have hD : ∀ d, l.length - c ≤ d → Reads (ext wr q) (.slice (some ⟨b, o + c * 5, none⟩) (l.length - c) d) (l.length - c) 5 ((l.drop c).flatMap itV) := fun d hd => by
          have := Reads.drop h0 c hk d hd
          rw [flat_drop itV 5 itV_len] at this
          exact this
        have hD2 : l.length = c → ∀ d, Reads (ext wr q) (.slice (some ⟨b, o, none⟩) (l.length - c) d) (l.length - c) 5 ((l.drop c).flatMap itV) := fun e d => by
          rw [List.drop_eq_nil_of_le (by omega), show l.length - c = 0 from by omega]
          exact ⟨rfl, by omega, Or.inl ⟨rfl, _, _, rfl⟩⟩
        have hzW : w.heap.size < (ext wr q).heap.size := Nat.lt_of_lt_of_le hz (ext_below wr q).size
        have hbW : Below w.heap.size w (ext wr q) := hb0.trans ((ext_below wr q).mono hb0.size)
        have HP := Lib.hid (put_at l x c hk HK.out (by intro y hy; have := (List.getElem?_eq_some_iff.1 hy).1; omega))
        clear h0 hb hb0 hX
        generalize ext wr q = W at *
        obtain ⟨x0, x1, x2, x3, x4⟩ := hXW
        simp only [Nat.zero_add] at x1 x2 x3 x4
        have RA : Hid (Reads (((W.alloc (.cells #[] 39)).alloc (.cells #[.int .i64 x.key, .bool x.en.ad.v6, .int .u64 x.en.ad.hi, .int .u64 x.en.ad.lo, .int .i64 x.en.port] 39)).drew) (.slice (some ⟨W.heap.size + 1, 0, none⟩) 1 1) 1 5 (itV x)) := reads_one1 (us := itV x) rfl (Nat.succ_pos 4)
        have RB : Hid (Reads (((W.alloc (.cells #[.int .i64 x.key, .bool x.en.ad.v6, .int .u64 x.en.ad.hi, .int .u64 x.en.ad.lo, .int .i64 x.en.port] 39)).alloc (.cells #[] 39)).drew) (.slice (some ⟨W.heap.size, 0, none⟩) 1 1) 1 5 (itV x)) := Reads.below (reads_one (us := itV x) rfl (Nat.succ_pos 4)) ((Below.refl _ _).alloc (Nat.le_refl _) _).drew
        have OA : Hid ((W.alloc (.cells #[] 39)).drew.ownsRow W.heap.size 39 5 (.slice (some ⟨W.heap.size, 0, none⟩) 0 0) 0 []) := World.ownsRow_made W #[] 0 (Nat.le_refl _) (Nat.zero_le _) rfl
        have OB : Hid (((W.alloc (.cells #[.int .i64 x.key, .bool x.en.ad.v6, .int .u64 x.en.ad.hi, .int .u64 x.en.ad.lo, .int .i64 x.en.port] 39)).alloc (.cells #[] 39)).drew.ownsRow W.heap.size 39 5 (.slice (some ⟨W.heap.size + 1, 0, none⟩) 0 0) 0 []) := by
          have := World.ownsRow_made (base := W.heap.size) (e := 39) (size := 5) (W.alloc (.cells #[.int .i64 x.key, .bool x.en.ad.v6, .int .u64 x.en.ad.hi, .int .u64 x.en.ad.lo, .int .i64 x.en.port] 39)) #[] 0 (by simp) (Nat.zero_le _) rfl
          simp only [World.size_alloc] at this
          exact this
        have HT := Lib.hid hT; have HD := Lib.hid hD; have HD2 := Lib.hid hD2; clear hT hD hD2
        have q5 : (c : Int) ≤ (c : Int) := by omega
        have q6 : c ≤ c := by omega
        have q7 : (c : Int) ≤ (l.length : Int) := by omega
        have q8 : (l.length : Int) ≤ (c : Int) := by omega
        have q9 : (0 : Int) ≤ (c : Int) := by omega
        go_region_held3 (fun w' => w'.cell? ⟨w.heap.size, 0, none⟩ = some (.int .i64 x.key) ∧ w'.cell? ⟨w.heap.size, 1, none⟩ = some (.bool x.en.ad.v6) ∧ w'.cell? ⟨w.heap.size, 2, none⟩ = some (.int .u64 x.en.ad.hi) ∧ w'.cell? ⟨w.heap.size, 3, none⟩ = some (.int .u64 x.en.ad.lo) ∧ w'.cell? ⟨w.heap.size, 4, none⟩ = some (.int .i64 x.en.port)) (first | go_keep | (simp (disch := omega) [*])) (first | (refine step_app_reads_g refItRow (by rfl) (.tmp 22) (.tmp 25) (by rfl) W.heap.size (.slice (some ⟨W.heap.size, 0, none⟩) 0 0) 0 [] (by rfl) OA.out (.slice (some ⟨b, o, none⟩) c c) c ((l.take c).flatMap itV) (by rfl) (Reads.below HT.out (by go_grown)) (itV_one _) (by omega) (by omega) (by first | omega | (simp; done) | (simp; omega)) ?_; intro v1 w1 hown1 hgr1; have hB1 : Below W.heap.size W w1 := below_grown OA.out (by go_grown) (Nat.le_refl _) (by first | omega | (simp; done) | (simp; omega)) hgr1; obtain ⟨cf1, _⟩ := bcellB hB1) | (refine step_app_reads_g refItRow (by rfl) (.tmp 22) (.tmp 25) (by rfl) W.heap.size (.slice (some ⟨W.heap.size, 0, none⟩) 0 0) 0 [] (by rfl) (OA.out.alloc _) (.slice (some ⟨b, o, none⟩) c c) c ((l.take c).flatMap itV) (by rfl) (Reads.below HT.out (by go_grown)) (itV_one _) (by omega) (by omega) (by first | omega | (simp; done) | (simp; omega)) ?_; intro v1 w1 hown1 hgr1; have hB1 : Below W.heap.size W w1 := below_grown (OA.out.alloc _) (by go_grown) (Nat.le_refl _) (by first | omega | (simp; done) | (simp; omega)) hgr1; obtain ⟨cf1, _⟩ := bcellB hB1) | (refine step_app_reads_g refItRow (by rfl) (.tmp 22) (.tmp 25) (by rfl) W.heap.size (.slice (some ⟨W.heap.size + 1, 0, none⟩) 0 0) 0 [] (by rfl) OB.out (.slice (some ⟨b, o, none⟩) c c) c ((l.take c).flatMap itV) (by rfl) (Reads.below HT.out (by go_grown)) (itV_one _) (by omega) (by omega) (by first | omega | (simp; done) | (simp; omega)) ?_; intro v1 w1 hown1 hgr1; have hB1 : Below W.heap.size W w1 := below_grown OB.out (by go_grown) (Nat.le_refl _) (by first | omega | (simp; done) | (simp; omega)) hgr1; obtain ⟨cf1, _⟩ := bcellB hB1) | (refine step_app_reads_g refItRow (by rfl) (.tmp 26) (.tmp 28) (by rfl) W.heap.size v1 (0 + c) ([] ++ (l.take c).flatMap itV) (by rfl) (hown1.alloc _) _ 1 (itV x) (by rfl) (reads_one (us := itV x) rfl (Nat.succ_pos 4)) (itV_one1 x) (by omega) (by omega) (Nat.le_trans hB1.size (by first | omega | (simp; done) | (simp; omega))) ?_; intro v2 w2 hown2 hgr2; have hB2 : Below W.heap.size W w2 := below_grown (hown1.alloc _) (hB1.alloc hB1.size _) (Nat.le_refl _) (Nat.le_trans hB1.size (by first | omega | (simp; done) | (simp; omega))) hgr2; obtain ⟨cf2, _⟩ := bcellB hB2) | (refine step_app_reads_g refItRow (by rfl) (.tmp 26) (.tmp 28) (by rfl) W.heap.size v1 (0 + c) ([] ++ (l.take c).flatMap itV) (by rfl) hown1 _ 1 (itV x) (by rfl) (far_reads hgr1 RA.out (by omega)) (itV_one1 x) (by omega) (by omega) (Nat.le_trans hB1.size (by first | omega | (simp; done) | (simp; omega))) ?_; intro v2 w2 hown2 hgr2; have hB2 : Below W.heap.size W w2 := below_grown hown1 hB1 (Nat.le_refl _) (Nat.le_trans hB1.size (by first | omega | (simp; done) | (simp; omega))) hgr2; obtain ⟨cf2, _⟩ := bcellB hB2) | (refine step_app_reads_g refItRow (by rfl) (.tmp 26) (.tmp 28) (by rfl) W.heap.size v1 (0 + c) ([] ++ (l.take c).flatMap itV) (by rfl) hown1 _ 1 (itV x) (by rfl) (far_reads hgr1 RB.out (by omega)) (itV_one1 x) (by omega) (by omega) (Nat.le_trans hB1.size (by first | omega | (simp; done) | (simp; omega))) ?_; intro v2 w2 hown2 hgr2; have hB2 : Below W.heap.size W w2 := below_grown hown1 hB1 (Nat.le_refl _) (Nat.le_trans hB1.size (by first | omega | (simp; done) | (simp; omega))) hgr2; obtain ⟨cf2, _⟩ := bcellB hB2))
        all_goals
          clear RA RB OA OB cf1 cf2 hgr1 hgr2 hown1
          go_wp2_with (at_builtin; refine list_app_reads refItRow rfl (.tmp 30) (.tmp 33) rfl W.heap.size v2 (0 + c + 1) _ rfl hown2 _ 0 [] rfl ⟨rfl, by omega, Or.inl ⟨rfl, _, _, rfl⟩⟩ (by simp) (by omega) (by omega) hB2.size W.heap.size W hB2 (Nat.le_refl _) ?_; intro v3 w3 hown3 hB3)
          go_ret
          refine ⟨_, rfl, ?_, below_sub hbW hB3⟩
          rw [HP.out]
          have e1 : (l.take c ++ [x] ++ l.drop c).length = 0 + c + 1 + 0 := by simp; omega
          rw [e1]
          have e2 : (l.take c ++ [x] ++ l.drop c).flatMap itV = [] ++ (l.take c).flatMap itV ++ itV x ++ [] := by rw [List.drop_eq_nil_of_le (by omega)]; simp
          rw [e2]
          exact owns_base hown3 (Nat.le_of_lt hzW)
      · skip
        have hXW := itAt_below (itAt_ext hX q hz) (Below.refl _ _) (Nat.lt_of_lt_of_le hz (ext_below wr q).size)
        have h0 := HV.out.below (hb0.trans ((ext_below wr q).mono hb0.size))
        have hT : Reads (ext wr q) (.slice (some ⟨b, o, none⟩) k c) k 5 ((l.take k).flatMap itV) := by
          have := Reads.take h0 k hk c
          rw [flat_take itV 5 itV_len] at this
          rcases this with h | h
          · exact h
          · omega
        have hD : ∀ d, l.length - k ≤ d → Reads (ext wr q) (.slice (some ⟨b, o + k * 5, none⟩) (l.length - k) d) (l.length - k) 5 ((l.drop k).flatMap itV) := fun d hd => by
          have := Reads.drop h0 k hk d hd
          rw [flat_drop itV 5 itV_len] at this
          exact this
        have hD2 : l.length = k → ∀ d, Reads (ext wr q) (.slice (some ⟨b, o, none⟩) (l.length - k) d) (l.length - k) 5 ((l.drop k).flatMap itV) := fun e d => by
          rw [List.drop_eq_nil_of_le (by omega), show l.length - k = 0 from by omega]
          exact ⟨rfl, by omega, Or.inl ⟨rfl, _, _, rfl⟩⟩
        have hzW : w.heap.size < (ext wr q).heap.size := Nat.lt_of_lt_of_le hz (ext_below wr q).size
        have hbW : Below w.heap.size w (ext wr q) := hb0.trans ((ext_below wr q).mono hb0.size)
        have HP := Lib.hid (put_at l x k hk HK.out (by intro y hy; have := (List.getElem?_eq_some_iff.1 hy).1; omega))
        clear h0 hb hb0 hX
        generalize ext wr q = W at *
        obtain ⟨x0, x1, x2, x3, x4⟩ := hXW
        simp only [Nat.zero_add] at x1 x2 x3 x4
        have RA : Hid (Reads (((W.alloc (.cells #[] 39)).alloc (.cells #[.int .i64 x.key, .bool x.en.ad.v6, .int .u64 x.en.ad.hi, .int .u64 x.en.ad.lo, .int .i64 x.en.port] 39)).drew) (.slice (some ⟨W.heap.size + 1, 0, none⟩) 1 1) 1 5 (itV x)) := reads_one1 (us := itV x) rfl (Nat.succ_pos 4)
        have RB : Hid (Reads (((W.alloc (.cells #[.int .i64 x.key, .bool x.en.ad.v6, .int .u64 x.en.ad.hi, .int .u64 x.en.ad.lo, .int .i64 x.en.port] 39)).alloc (.cells #[] 39)).drew) (.slice (some ⟨W.heap.size, 0, none⟩) 1 1) 1 5 (itV x)) := Reads.below (reads_one (us := itV x) rfl (Nat.succ_pos 4)) ((Below.refl _ _).alloc (Nat.le_refl _) _).drew
        have OA : Hid ((W.alloc (.cells #[] 39)).drew.ownsRow W.heap.size 39 5 (.slice (some ⟨W.heap.size, 0, none⟩) 0 0) 0 []) := World.ownsRow_made W #[] 0 (Nat.le_refl _) (Nat.zero_le _) rfl
        have OB : Hid (((W.alloc (.cells #[.int .i64 x.key, .bool x.en.ad.v6, .int .u64 x.en.ad.hi, .int .u64 x.en.ad.lo, .int .i64 x.en.port] 39)).alloc (.cells #[] 39)).drew.ownsRow W.heap.size 39 5 (.slice (some ⟨W.heap.size + 1, 0, none⟩) 0 0) 0 []) := by
          have := World.ownsRow_made (base := W.heap.size) (e := 39) (size := 5) (W.alloc (.cells #[.int .i64 x.key, .bool x.en.ad.v6, .int .u64 x.en.ad.hi, .int .u64 x.en.ad.lo, .int .i64 x.en.port] 39)) #[] 0 (by simp) (Nat.zero_le _) rfl
          simp only [World.size_alloc] at this
          exact this
        have HT := Lib.hid hT; have HD := Lib.hid hD; have HD2 := Lib.hid hD2; clear hT hD hD2
        have q5 : (k : Int) ≤ (c : Int) := by omega
        have q6 : k ≤ c := by omega
        have q7 : (k : Int) ≤ (l.length : Int) := by omega
        have q8 : (l.length : Int) ≤ (c : Int) := by omega
        have q9 : (0 : Int) ≤ (k : Int) := by omega
        go_region_held3 (fun w' => w'.cell? ⟨w.heap.size, 0, none⟩ = some (.int .i64 x.key) ∧ w'.cell? ⟨w.heap.size, 1, none⟩ = some (.bool x.en.ad.v6) ∧ w'.cell? ⟨w.heap.size, 2, none⟩ = some (.int .u64 x.en.ad.hi) ∧ w'.cell? ⟨w.heap.size, 3, none⟩ = some (.int .u64 x.en.ad.lo) ∧ w'.cell? ⟨w.heap.size, 4, none⟩ = some (.int .i64 x.en.port)) (first | go_keep | (simp (disch := omega) [*])) (first | (refine step_app_reads_g refItRow (by rfl) (.tmp 22) (.tmp 25) (by rfl) W.heap.size (.slice (some ⟨W.heap.size, 0, none⟩) 0 0) 0 [] (by rfl) OA.out (.slice (some ⟨b, o, none⟩) k c) k ((l.take k).flatMap itV) (by rfl) (Reads.below HT.out (by go_grown)) (itV_one _) (by omega) (by omega) (by first | omega | (simp; done) | (simp; omega)) ?_; intro v1 w1 hown1 hgr1; have hB1 : Below W.heap.size W w1 := below_grown OA.out (by go_grown) (Nat.le_refl _) (by first | omega | (simp; done) | (simp; omega)) hgr1; obtain ⟨cf1, _⟩ := bcellB hB1) | (refine step_app_reads_g refItRow (by rfl) (.tmp 22) (.tmp 25) (by rfl) W.heap.size (.slice (some ⟨W.heap.size, 0, none⟩) 0 0) 0 [] (by rfl) (OA.out.alloc _) (.slice (some ⟨b, o, none⟩) k c) k ((l.take k).flatMap itV) (by rfl) (Reads.below HT.out (by go_grown)) (itV_one _) (by omega) (by omega) (by first | omega | (simp; done) | (simp; omega)) ?_; intro v1 w1 hown1 hgr1; have hB1 : Below W.heap.size W w1 := below_grown (OA.out.alloc _) (by go_grown) (Nat.le_refl _) (by first | omega | (simp; done) | (simp; omega)) hgr1; obtain ⟨cf1, _⟩ := bcellB hB1) | (refine step_app_reads_g refItRow (by rfl) (.tmp 22) (.tmp 25) (by rfl) W.heap.size (.slice (some ⟨W.heap.size + 1, 0, none⟩) 0 0) 0 [] (by rfl) OB.out (.slice (some ⟨b, o, none⟩) k c) k ((l.take k).flatMap itV) (by rfl) (Reads.below HT.out (by go_grown)) (itV_one _) (by omega) (by omega) (by first | omega | (simp; done) | (simp; omega)) ?_; intro v1 w1 hown1 hgr1; have hB1 : Below W.heap.size W w1 := below_grown OB.out (by go_grown) (Nat.le_refl _) (by first | omega | (simp; done) | (simp; omega)) hgr1; obtain ⟨cf1, _⟩ := bcellB hB1) | (refine step_app_reads_g refItRow (by rfl) (.tmp 26) (.tmp 28) (by rfl) W.heap.size v1 (0 + k) ([] ++ (l.take k).flatMap itV) (by rfl) (hown1.alloc _) _ 1 (itV x) (by rfl) (reads_one (us := itV x) rfl (Nat.succ_pos 4)) (itV_one1 x) (by omega) (by omega) (Nat.le_trans hB1.size (by first | omega | (simp; done) | (simp; omega))) ?_; intro v2 w2 hown2 hgr2; have hB2 : Below W.heap.size W w2 := below_grown (hown1.alloc _) (hB1.alloc hB1.size _) (Nat.le_refl _) (Nat.le_trans hB1.size (by first | omega | (simp; done) | (simp; omega))) hgr2; obtain ⟨cf2, _⟩ := bcellB hB2) | (refine step_app_reads_g refItRow (by rfl) (.tmp 26) (.tmp 28) (by rfl) W.heap.size v1 (0 + k) ([] ++ (l.take k).flatMap itV) (by rfl) hown1 _ 1 (itV x) (by rfl) (far_reads hgr1 RA.out (by omega)) (itV_one1 x) (by omega) (by omega) (Nat.le_trans hB1.size (by first | omega | (simp; done) | (simp; omega))) ?_; intro v2 w2 hown2 hgr2; have hB2 : Below W.heap.size W w2 := below_grown hown1 hB1 (Nat.le_refl _) (Nat.le_trans hB1.size (by first | omega | (simp; done) | (simp; omega))) hgr2; obtain ⟨cf2, _⟩ := bcellB hB2) | (refine step_app_reads_g refItRow (by rfl) (.tmp 26) (.tmp 28) (by rfl) W.heap.size v1 (0 + k) ([] ++ (l.take k).flatMap itV) (by rfl) hown1 _ 1 (itV x) (by rfl) (far_reads hgr1 RB.out (by omega)) (itV_one1 x) (by omega) (by omega) (Nat.le_trans hB1.size (by first | omega | (simp; done) | (simp; omega))) ?_; intro v2 w2 hown2 hgr2; have hB2 : Below W.heap.size W w2 := below_grown hown1 hB1 (Nat.le_refl _) (Nat.le_trans hB1.size (by first | omega | (simp; done) | (simp; omega))) hgr2; obtain ⟨cf2, _⟩ := bcellB hB2))
        all_goals
          clear RA RB OA OB cf1 cf2 hgr1 hgr2 hown1
          go_wp2_with (at_builtin; refine list_app_reads refItRow rfl (.tmp 30) (.tmp 33) rfl W.heap.size v2 (0 + k + 1) _ rfl hown2 _ (l.length - k) ((l.drop k).flatMap itV) rfl (by first | exact Reads.below (HD.out _ (by omega)) hB2 | exact Reads.below (HD2.out (by omega) _) hB2) (itV_one _) (by omega) (by omega) hB2.size W.heap.size W hB2 (Nat.le_refl _) ?_; intro v3 w3 hown3 hB3)
          go_ret
          refine ⟨_, rfl, ?_, below_sub hbW hB3⟩
          rw [HP.out]
          have e1 : (l.take k ++ [x] ++ l.drop k).length = 0 + k + 1 + (l.length - k) := by simp; omega
          rw [e1]
          have e2 : (l.take k ++ [x] ++ l.drop k).flatMap itV = [] ++ (l.take k).flatMap itV ++ itV x ++ (l.drop k).flatMap itV := by simp
          rw [e2]
          exact owns_base hown3 (Nat.le_of_lt hzW)
end Go.Proofs.Ytppmjbnhghaffaa
