/- Texts put together: EndQ. No condition. -/
import Derived.Test.YtnohkfbapibmdaaGreatRkovotzgmgw
namespace Go.Proofs.YtnohkfbapibmdaaGreat
open Go.RowKit
set_option linter.unusedSimpArgs false
set_option linter.unusedVariables false

theorem lastColon (s : ByteArray) (w : World) (hs : s.size ≤ 4000000000) : Calls Tryz.prog 67 #[.string s, .string ⟨#[58]⟩] w fun e w' => e = .returned (.int .i64 (lastI 58 s.data.toList)) ∧ w = w' := by
  refine (Tryz.strings_LastIndex_one s ⟨#[58]⟩ rfl (by omega) w).mono fun e w' ⟨h1, h2⟩ => ⟨?_, h2.symm⟩
  rw [h1, ← lastIdx_eq]; rfl
set_option maxRecDepth 100000 in
set_option maxHeartbeats 8000000 in
theorem enParse_any (s : ByteArray) (w : World) (hs : s.size ≤ 4000000000) (hc : Cpu w) : Calls Tryz.prog 39 #[.string s] w (GivesEn w (enParse s.data.toList)) := by
  have HC := Lib.hid hc; clear hc
  have hL := fun w => lastColon s w hs
  unfold GivesEn enParse
  unfold lastI at hL
  cases hlast : lastO 58 s.data.toList with
  | none =>
    rw [hlast] at hL
    simp only at hL ⊢
    unfold zeroE
    have HH := Lib.hid (fun w => has58 [] w)
    have HL := Lib.hid hL; clear hL hlast
    go_enter Tryz.func39, Tryz.ntmps39
    go_wp2_with (go_at_call 67; (with_reducible refine (HL.out _).mono ?_); rintro e w1 ⟨rfl, rfl⟩)
    go_name_world WWx hWWx
    have ex0 : ∀ Y, (ext WWx Y).cell? ⟨w.heap.size, 0, none⟩ = some (.bool false) := by subst hWWx; intro Y; exact (ext_cell _ Y (by first | omega | (simp; done) | (simp; omega))).trans (by first | (simp (disch := first | omega | (simp; omega)) [World.cell?_alloc_past, *]; done) | (simp (disch := first | omega | (simp; omega)) [World.cell?_setCell_far, World.cell?_alloc_past, *]; done) | (simp (disch := first | omega | (simp; omega)) [World.cell?_alloc_past, *]; rfl) | (simp (disch := first | omega | (simp; omega)) [World.cell?_setCell_far, World.cell?_alloc_past, *]; rfl) | (simp [go_sem, *]; done) | (simp (disch := first | omega | (simp; omega) | (simp [go_sem, *]; done)) [go_sem, World.cell?_setCell_far, World.cell?_alloc_past, *]; done))
    have ex1 : ∀ Y, (ext WWx Y).cell? ⟨w.heap.size, 1, none⟩ = some (.int .u64 0) := by subst hWWx; intro Y; exact (ext_cell _ Y (by first | omega | (simp; done) | (simp; omega))).trans (by first | (simp (disch := first | omega | (simp; omega)) [World.cell?_alloc_past, *]; done) | (simp (disch := first | omega | (simp; omega)) [World.cell?_setCell_far, World.cell?_alloc_past, *]; done) | (simp (disch := first | omega | (simp; omega)) [World.cell?_alloc_past, *]; rfl) | (simp (disch := first | omega | (simp; omega)) [World.cell?_setCell_far, World.cell?_alloc_past, *]; rfl) | (simp [go_sem, *]; done) | (simp (disch := first | omega | (simp; omega) | (simp [go_sem, *]; done)) [go_sem, World.cell?_setCell_far, World.cell?_alloc_past, *]; done))
    have ex2 : ∀ Y, (ext WWx Y).cell? ⟨w.heap.size, 2, none⟩ = some (.int .u64 0) := by subst hWWx; intro Y; exact (ext_cell _ Y (by first | omega | (simp; done) | (simp; omega))).trans (by first | (simp (disch := first | omega | (simp; omega)) [World.cell?_alloc_past, *]; done) | (simp (disch := first | omega | (simp; omega)) [World.cell?_setCell_far, World.cell?_alloc_past, *]; done) | (simp (disch := first | omega | (simp; omega)) [World.cell?_alloc_past, *]; rfl) | (simp (disch := first | omega | (simp; omega)) [World.cell?_setCell_far, World.cell?_alloc_past, *]; rfl) | (simp [go_sem, *]; done) | (simp (disch := first | omega | (simp; omega) | (simp [go_sem, *]; done)) [go_sem, World.cell?_setCell_far, World.cell?_alloc_past, *]; done))
    have ex3 : ∀ Y, (ext WWx Y).cell? ⟨w.heap.size, 3, none⟩ = some (.int .i64 0) := by subst hWWx; intro Y; exact (ext_cell _ Y (by first | omega | (simp; done) | (simp; omega))).trans (by first | (simp (disch := first | omega | (simp; omega)) [World.cell?_alloc_past, *]; done) | (simp (disch := first | omega | (simp; omega)) [World.cell?_setCell_far, World.cell?_alloc_past, *]; done) | (simp (disch := first | omega | (simp; omega)) [World.cell?_alloc_past, *]; rfl) | (simp (disch := first | omega | (simp; omega)) [World.cell?_setCell_far, World.cell?_alloc_past, *]; rfl) | (simp [go_sem, *]; done) | (simp (disch := first | omega | (simp; omega) | (simp [go_sem, *]; done)) [go_sem, World.cell?_setCell_far, World.cell?_alloc_past, *]; done))
    have fzx0 : ∀ Y o, (ext WWx Y).frozen? ⟨w.heap.size, o, none⟩ = false := by subst hWWx; intro Y o; exact (ext_frozen _ Y (by first | omega | (simp; done) | (simp; omega))).trans (by first | (simp (disch := first | omega | (simp; omega)) [World.frozen?_alloc_past, *]; done) | (simp (disch := first | omega | (simp; omega)) [World.frozen?_alloc_past, *]; rfl))
    have bWx : Below w.heap.size w WWx := by subst hWWx; (repeat (first | assumption | exact Below.refl _ _ | refine Below.setCell ?_ (by first | omega | (simp; done) | (simp; omega)) _ | refine Below.alloc ?_ (by first | omega | (simp; done) | (simp; omega)) _ | refine Below.drew ?_ | (refine Below.trans ?_ (Below.mono (by assumption) (by first | omega | (simp; done) | (simp; omega))))))
    have lWx0 : w.heap.size < WWx.heap.size := by subst hWWx; first | omega | (simp; done) | (simp; omega)
    clear hWWx
    try simp only [List.append_eq, List.cons_append, List.nil_append]
    refine wp_region_ext (by kernel_rfl) (by kernel_rfl) ?_
    repeat (go_big_quiet_step ((first | (go_at_call 68; with_reducible exact qs (HH.out _)))))
    refine wpQuiet_nil ?_
    intro _ hw'
    obtain ⟨x, hw''⟩ := hw'
    subst hw''
    have px0 := ex0 x
    have px1 := ex1 x
    have px2 := ex2 x
    have px3 := ex3 x
    have gx0 := fzx0 x
    clear fzx0
    clear ex0 ex1 ex2 ex3
    have bwx := bWx.trans ((ext_below WWx x).mono bWx.size)
    have zwx := bwx.size
    have zex := (ext_below WWx x).size
    go_wp2_with fail
    refine bodyPost_ret (v := .tuple #[.agg #[.bool false, .int .u64 0, .int .u64 0, .int .i64 0], .bool false]) (by simp [results, Tryz.results39, go_sem, *]) rfl ⟨rfl, ?_⟩
    (repeat (first | assumption | exact Below.refl _ _ | refine Below.setCell ?_ (by first | omega | (simp; done) | (simp; omega)) _ | refine Below.alloc ?_ (by first | omega | (simp; done) | (simp; omega)) _ | refine Below.drew ?_ | (refine Below.trans ?_ (Below.mono (by assumption) (by first | omega | (simp; done) | (simp; omega))))))
  | some i =>
    rw [hlast] at hL
    simp only at hL ⊢
    obtain ⟨hi1, hi2, hi3⟩ := lastO_some hlast
    rw [len_data] at hi3
    have e1 : s.extract 0 i = bs (s.data.toList.take i) := extract_take s i
    have e2 : s.extract (i + 1) s.size = bs (s.data.toList.drop (i + 1)) := extract_drop s (i + 1)
    have h0 : 0 < s.size := by omega
    have hhead : (s.data.toList.take i)[0]? = some 91 ↔ s[0] = 91 := by
      rw [List.getElem?_take]
      by_cases hz : i = 0
      · subst hz
        rw [if_neg (by omega)]
        rw [get_data s 0 h0] at hi1
        injection hi1 with hi1
        constructor
        · intro h; cases h
        · intro h; rw [h] at hi1; exact absurd hi1 (by decide)
      · rw [if_pos (by omega), get_data s 0 h0]; simp
    have ht : (s.data.toList.take i).length ≤ 4000000000 := by rw [List.length_take]; have := len_data s; omega
    have hd : (s.data.toList.drop (i + 1)).length ≤ 4000000000 := by rw [List.length_drop]; have := len_data s; omega
    have hP := fun w hc => host_any (s.data.toList.take i) w ht hc
    have hD := fun w => decParse_any (bs (s.data.toList.drop (i + 1))) 65535 w (by rw [bs_size]; omega)
    rw [bs_data] at hD
    have hqb := dec_le (l := s.data.toList.drop (i + 1)) (m := 65535) (by omega)
    rw [en_eq _ _ hqb.1]
    have hH := fun w => has58 (s.data.toList.take i) w
    unfold GivesAd at hP
    unfold enCode
    clear hlast hi1 hi2 ht hd
    generalize s.data.toList.take i = h at *
    generalize decParse (s.data.toList.drop (i + 1)) 65535 = q at *
    generalize s.data.toList.drop (i + 1) = tl at *
    generalize hostP h = p at *
    obtain ⟨n, ok2⟩ := q
    obtain ⟨a, ok⟩ := p
    simp only at hP hD hqb ⊢
    obtain ⟨q0, q1⟩ := hqb
    have HL := Lib.hid hL; have HP := Lib.hid hP; have HD := Lib.hid hD
    clear hL hP hD
    have hii : (i : Int) < s.size := by omega
    have hneg : decide ((i : Int) < 0) = false := decide_eq_false (by omega)
    by_cases hb : h[0]? = some 91
    · have hb0 : ((s[0].toNat : Int) != 91) = false := by rw [hhead.1 hb]; rfl
      have hb1 : ((s[0].toNat : Int) != (((⟨#[91]⟩ : ByteArray)[0]'(by decide)).toNat : Int)) = false := hb0
      rw [if_neg (fun c => c.1 hb)]
      have HH := Lib.hid hH
      clear hH hhead hb
      cases ok with
      | false =>
        rw [if_pos (Or.inl rfl)]
        unfold zeroE
        go_enter Tryz.func39, Tryz.ntmps39
        go_wp2_with (go_at_call 67; (with_reducible refine (HL.out _).mono ?_); rintro e w1 ⟨rfl, rfl⟩)
        go_name_world WWx hWWx
        have ex0 : ∀ Y, (ext WWx Y).cell? ⟨w.heap.size, 0, none⟩ = some (.bool false) := by subst hWWx; intro Y; exact (ext_cell _ Y (by first | omega | (simp; done) | (simp; omega))).trans (by first | (simp (disch := first | omega | (simp; omega)) [World.cell?_alloc_past, *]; done) | (simp (disch := first | omega | (simp; omega)) [World.cell?_setCell_far, World.cell?_alloc_past, *]; done) | (simp (disch := first | omega | (simp; omega)) [World.cell?_alloc_past, *]; rfl) | (simp (disch := first | omega | (simp; omega)) [World.cell?_setCell_far, World.cell?_alloc_past, *]; rfl) | (simp [go_sem, *]; done) | (simp (disch := first | omega | (simp; omega) | (simp [go_sem, *]; done)) [go_sem, World.cell?_setCell_far, World.cell?_alloc_past, *]; done))
        have ex1 : ∀ Y, (ext WWx Y).cell? ⟨w.heap.size, 1, none⟩ = some (.int .u64 0) := by subst hWWx; intro Y; exact (ext_cell _ Y (by first | omega | (simp; done) | (simp; omega))).trans (by first | (simp (disch := first | omega | (simp; omega)) [World.cell?_alloc_past, *]; done) | (simp (disch := first | omega | (simp; omega)) [World.cell?_setCell_far, World.cell?_alloc_past, *]; done) | (simp (disch := first | omega | (simp; omega)) [World.cell?_alloc_past, *]; rfl) | (simp (disch := first | omega | (simp; omega)) [World.cell?_setCell_far, World.cell?_alloc_past, *]; rfl) | (simp [go_sem, *]; done) | (simp (disch := first | omega | (simp; omega) | (simp [go_sem, *]; done)) [go_sem, World.cell?_setCell_far, World.cell?_alloc_past, *]; done))
        have ex2 : ∀ Y, (ext WWx Y).cell? ⟨w.heap.size, 2, none⟩ = some (.int .u64 0) := by subst hWWx; intro Y; exact (ext_cell _ Y (by first | omega | (simp; done) | (simp; omega))).trans (by first | (simp (disch := first | omega | (simp; omega)) [World.cell?_alloc_past, *]; done) | (simp (disch := first | omega | (simp; omega)) [World.cell?_setCell_far, World.cell?_alloc_past, *]; done) | (simp (disch := first | omega | (simp; omega)) [World.cell?_alloc_past, *]; rfl) | (simp (disch := first | omega | (simp; omega)) [World.cell?_setCell_far, World.cell?_alloc_past, *]; rfl) | (simp [go_sem, *]; done) | (simp (disch := first | omega | (simp; omega) | (simp [go_sem, *]; done)) [go_sem, World.cell?_setCell_far, World.cell?_alloc_past, *]; done))
        have ex3 : ∀ Y, (ext WWx Y).cell? ⟨w.heap.size, 3, none⟩ = some (.int .i64 0) := by subst hWWx; intro Y; exact (ext_cell _ Y (by first | omega | (simp; done) | (simp; omega))).trans (by first | (simp (disch := first | omega | (simp; omega)) [World.cell?_alloc_past, *]; done) | (simp (disch := first | omega | (simp; omega)) [World.cell?_setCell_far, World.cell?_alloc_past, *]; done) | (simp (disch := first | omega | (simp; omega)) [World.cell?_alloc_past, *]; rfl) | (simp (disch := first | omega | (simp; omega)) [World.cell?_setCell_far, World.cell?_alloc_past, *]; rfl) | (simp [go_sem, *]; done) | (simp (disch := first | omega | (simp; omega) | (simp [go_sem, *]; done)) [go_sem, World.cell?_setCell_far, World.cell?_alloc_past, *]; done))
        have fzx0 : ∀ Y o, (ext WWx Y).frozen? ⟨w.heap.size, o, none⟩ = false := by subst hWWx; intro Y o; exact (ext_frozen _ Y (by first | omega | (simp; done) | (simp; omega))).trans (by first | (simp (disch := first | omega | (simp; omega)) [World.frozen?_alloc_past, *]; done) | (simp (disch := first | omega | (simp; omega)) [World.frozen?_alloc_past, *]; rfl))
        have bWx : Below w.heap.size w WWx := by subst hWWx; (repeat (first | assumption | exact Below.refl _ _ | refine Below.setCell ?_ (by first | omega | (simp; done) | (simp; omega)) _ | refine Below.alloc ?_ (by first | omega | (simp; done) | (simp; omega)) _ | refine Below.drew ?_ | (refine Below.trans ?_ (Below.mono (by assumption) (by first | omega | (simp; done) | (simp; omega))))))
        have lWx0 : w.heap.size < WWx.heap.size := by subst hWWx; first | omega | (simp; done) | (simp; omega)
        clear hWWx
        try simp only [List.append_eq, List.cons_append, List.nil_append]
        refine wp_region_ext (by kernel_rfl) (by kernel_rfl) ?_
        repeat (go_big_quiet_step ((first | (go_at_call 68; with_reducible exact qs (HH.out _)))))
        refine wpQuiet_nil ?_
        intro _ hw'
        obtain ⟨x, hw''⟩ := hw'
        subst hw''
        have px0 := ex0 x
        have px1 := ex1 x
        have px2 := ex2 x
        have px3 := ex3 x
        have gx0 := fzx0 x
        clear fzx0
        clear ex0 ex1 ex2 ex3
        have bwx := bWx.trans ((ext_below WWx x).mono bWx.size)
        have zwx := bwx.size
        have zex := (ext_below WWx x).size
        go_wp2_with (first | (go_at_call 69; (with_reducible refine (HP.out _ (HC.out.below (by (repeat (first | assumption | exact Below.refl _ _ | refine Below.setCell ?_ (by first | omega | (simp; done) | (simp; omega)) _ | refine Below.alloc ?_ (by first | omega | (simp; done) | (simp; omega)) _ | refine Below.drew ?_ | (refine Below.trans ?_ (Below.mono (by assumption) (by first | omega | (simp; done) | (simp; omega))))))))).mono ?_); rintro e w2 ⟨rfl, b2⟩; obtain ⟨c2, f2⟩ := bcell b2; have z2 := b2.size; (try simp at z2); have l2a : w.heap.size < w2.heap.size := (by omega); have n2a := Nat.ne_of_lt l2a; have d2a := fun o => c2 (w.heap.size) o (by first | omega | (simp; done) | (simp; omega)); have q2a := fun o => f2 (w.heap.size) o (by first | omega | (simp; done) | (simp; omega)); clear c2 f2) | (go_at_call 70; (with_reducible refine (HD.out _).mono ?_); rintro e w3 ⟨rfl, rfl⟩))
        refine bodyPost_ret (v := .tuple #[.agg #[.bool false, .int .u64 0, .int .u64 0, .int .i64 0], .bool false]) (by simp [results, Tryz.results39, go_sem, *]) rfl ⟨rfl, ?_⟩
        (repeat (first | assumption | exact Below.refl _ _ | refine Below.setCell ?_ (by first | omega | (simp; done) | (simp; omega)) _ | refine Below.alloc ?_ (by first | omega | (simp; done) | (simp; omega)) _ | refine Below.drew ?_ | (refine Below.trans ?_ (Below.mono (by assumption) (by first | omega | (simp; done) | (simp; omega))))))
      | true =>
      cases ok2 with
      | false =>
        rw [if_pos (Or.inr (Or.inl rfl))]
        unfold zeroE
        go_enter Tryz.func39, Tryz.ntmps39
        go_wp2_with (go_at_call 67; (with_reducible refine (HL.out _).mono ?_); rintro e w1 ⟨rfl, rfl⟩)
        go_name_world WWx hWWx
        have ex0 : ∀ Y, (ext WWx Y).cell? ⟨w.heap.size, 0, none⟩ = some (.bool false) := by subst hWWx; intro Y; exact (ext_cell _ Y (by first | omega | (simp; done) | (simp; omega))).trans (by first | (simp (disch := first | omega | (simp; omega)) [World.cell?_alloc_past, *]; done) | (simp (disch := first | omega | (simp; omega)) [World.cell?_setCell_far, World.cell?_alloc_past, *]; done) | (simp (disch := first | omega | (simp; omega)) [World.cell?_alloc_past, *]; rfl) | (simp (disch := first | omega | (simp; omega)) [World.cell?_setCell_far, World.cell?_alloc_past, *]; rfl) | (simp [go_sem, *]; done) | (simp (disch := first | omega | (simp; omega) | (simp [go_sem, *]; done)) [go_sem, World.cell?_setCell_far, World.cell?_alloc_past, *]; done))
        have ex1 : ∀ Y, (ext WWx Y).cell? ⟨w.heap.size, 1, none⟩ = some (.int .u64 0) := by subst hWWx; intro Y; exact (ext_cell _ Y (by first | omega | (simp; done) | (simp; omega))).trans (by first | (simp (disch := first | omega | (simp; omega)) [World.cell?_alloc_past, *]; done) | (simp (disch := first | omega | (simp; omega)) [World.cell?_setCell_far, World.cell?_alloc_past, *]; done) | (simp (disch := first | omega | (simp; omega)) [World.cell?_alloc_past, *]; rfl) | (simp (disch := first | omega | (simp; omega)) [World.cell?_setCell_far, World.cell?_alloc_past, *]; rfl) | (simp [go_sem, *]; done) | (simp (disch := first | omega | (simp; omega) | (simp [go_sem, *]; done)) [go_sem, World.cell?_setCell_far, World.cell?_alloc_past, *]; done))
        have ex2 : ∀ Y, (ext WWx Y).cell? ⟨w.heap.size, 2, none⟩ = some (.int .u64 0) := by subst hWWx; intro Y; exact (ext_cell _ Y (by first | omega | (simp; done) | (simp; omega))).trans (by first | (simp (disch := first | omega | (simp; omega)) [World.cell?_alloc_past, *]; done) | (simp (disch := first | omega | (simp; omega)) [World.cell?_setCell_far, World.cell?_alloc_past, *]; done) | (simp (disch := first | omega | (simp; omega)) [World.cell?_alloc_past, *]; rfl) | (simp (disch := first | omega | (simp; omega)) [World.cell?_setCell_far, World.cell?_alloc_past, *]; rfl) | (simp [go_sem, *]; done) | (simp (disch := first | omega | (simp; omega) | (simp [go_sem, *]; done)) [go_sem, World.cell?_setCell_far, World.cell?_alloc_past, *]; done))
        have ex3 : ∀ Y, (ext WWx Y).cell? ⟨w.heap.size, 3, none⟩ = some (.int .i64 0) := by subst hWWx; intro Y; exact (ext_cell _ Y (by first | omega | (simp; done) | (simp; omega))).trans (by first | (simp (disch := first | omega | (simp; omega)) [World.cell?_alloc_past, *]; done) | (simp (disch := first | omega | (simp; omega)) [World.cell?_setCell_far, World.cell?_alloc_past, *]; done) | (simp (disch := first | omega | (simp; omega)) [World.cell?_alloc_past, *]; rfl) | (simp (disch := first | omega | (simp; omega)) [World.cell?_setCell_far, World.cell?_alloc_past, *]; rfl) | (simp [go_sem, *]; done) | (simp (disch := first | omega | (simp; omega) | (simp [go_sem, *]; done)) [go_sem, World.cell?_setCell_far, World.cell?_alloc_past, *]; done))
        have fzx0 : ∀ Y o, (ext WWx Y).frozen? ⟨w.heap.size, o, none⟩ = false := by subst hWWx; intro Y o; exact (ext_frozen _ Y (by first | omega | (simp; done) | (simp; omega))).trans (by first | (simp (disch := first | omega | (simp; omega)) [World.frozen?_alloc_past, *]; done) | (simp (disch := first | omega | (simp; omega)) [World.frozen?_alloc_past, *]; rfl))
        have bWx : Below w.heap.size w WWx := by subst hWWx; (repeat (first | assumption | exact Below.refl _ _ | refine Below.setCell ?_ (by first | omega | (simp; done) | (simp; omega)) _ | refine Below.alloc ?_ (by first | omega | (simp; done) | (simp; omega)) _ | refine Below.drew ?_ | (refine Below.trans ?_ (Below.mono (by assumption) (by first | omega | (simp; done) | (simp; omega))))))
        have lWx0 : w.heap.size < WWx.heap.size := by subst hWWx; first | omega | (simp; done) | (simp; omega)
        clear hWWx
        try simp only [List.append_eq, List.cons_append, List.nil_append]
        refine wp_region_ext (by kernel_rfl) (by kernel_rfl) ?_
        repeat (go_big_quiet_step ((first | (go_at_call 68; with_reducible exact qs (HH.out _)))))
        refine wpQuiet_nil ?_
        intro _ hw'
        obtain ⟨x, hw''⟩ := hw'
        subst hw''
        have px0 := ex0 x
        have px1 := ex1 x
        have px2 := ex2 x
        have px3 := ex3 x
        have gx0 := fzx0 x
        clear fzx0
        clear ex0 ex1 ex2 ex3
        have bwx := bWx.trans ((ext_below WWx x).mono bWx.size)
        have zwx := bwx.size
        have zex := (ext_below WWx x).size
        go_wp2_with (first | (go_at_call 69; (with_reducible refine (HP.out _ (HC.out.below (by (repeat (first | assumption | exact Below.refl _ _ | refine Below.setCell ?_ (by first | omega | (simp; done) | (simp; omega)) _ | refine Below.alloc ?_ (by first | omega | (simp; done) | (simp; omega)) _ | refine Below.drew ?_ | (refine Below.trans ?_ (Below.mono (by assumption) (by first | omega | (simp; done) | (simp; omega))))))))).mono ?_); rintro e w2 ⟨rfl, b2⟩; obtain ⟨c2, f2⟩ := bcell b2; have z2 := b2.size; (try simp at z2); have l2a : w.heap.size < w2.heap.size := (by omega); have n2a := Nat.ne_of_lt l2a; have d2a := fun o => c2 (w.heap.size) o (by first | omega | (simp; done) | (simp; omega)); have q2a := fun o => f2 (w.heap.size) o (by first | omega | (simp; done) | (simp; omega)); clear c2 f2) | (go_at_call 70; (with_reducible refine (HD.out _).mono ?_); rintro e w3 ⟨rfl, rfl⟩))
        refine bodyPost_ret (v := .tuple #[.agg #[.bool false, .int .u64 0, .int .u64 0, .int .i64 0], .bool false]) (by simp [results, Tryz.results39, go_sem, *]) rfl ⟨rfl, ?_⟩
        (repeat (first | assumption | exact Below.refl _ _ | refine Below.setCell ?_ (by first | omega | (simp; done) | (simp; omega)) _ | refine Below.alloc ?_ (by first | omega | (simp; done) | (simp; omega)) _ | refine Below.drew ?_ | (refine Below.trans ?_ (Below.mono (by assumption) (by first | omega | (simp; done) | (simp; omega))))))
      | true =>
      by_cases hn : n = 0
      · rw [if_pos (Or.inr (Or.inr hn))]
        have hn0 : (n == 0) = true := by rw [beq_iff_eq]; exact hn
        clear hn
        unfold zeroE
        go_enter Tryz.func39, Tryz.ntmps39
        go_wp2_with (go_at_call 67; (with_reducible refine (HL.out _).mono ?_); rintro e w1 ⟨rfl, rfl⟩)
        go_name_world WWx hWWx
        have ex0 : ∀ Y, (ext WWx Y).cell? ⟨w.heap.size, 0, none⟩ = some (.bool false) := by subst hWWx; intro Y; exact (ext_cell _ Y (by first | omega | (simp; done) | (simp; omega))).trans (by first | (simp (disch := first | omega | (simp; omega)) [World.cell?_alloc_past, *]; done) | (simp (disch := first | omega | (simp; omega)) [World.cell?_setCell_far, World.cell?_alloc_past, *]; done) | (simp (disch := first | omega | (simp; omega)) [World.cell?_alloc_past, *]; rfl) | (simp (disch := first | omega | (simp; omega)) [World.cell?_setCell_far, World.cell?_alloc_past, *]; rfl) | (simp [go_sem, *]; done) | (simp (disch := first | omega | (simp; omega) | (simp [go_sem, *]; done)) [go_sem, World.cell?_setCell_far, World.cell?_alloc_past, *]; done))
        have ex1 : ∀ Y, (ext WWx Y).cell? ⟨w.heap.size, 1, none⟩ = some (.int .u64 0) := by subst hWWx; intro Y; exact (ext_cell _ Y (by first | omega | (simp; done) | (simp; omega))).trans (by first | (simp (disch := first | omega | (simp; omega)) [World.cell?_alloc_past, *]; done) | (simp (disch := first | omega | (simp; omega)) [World.cell?_setCell_far, World.cell?_alloc_past, *]; done) | (simp (disch := first | omega | (simp; omega)) [World.cell?_alloc_past, *]; rfl) | (simp (disch := first | omega | (simp; omega)) [World.cell?_setCell_far, World.cell?_alloc_past, *]; rfl) | (simp [go_sem, *]; done) | (simp (disch := first | omega | (simp; omega) | (simp [go_sem, *]; done)) [go_sem, World.cell?_setCell_far, World.cell?_alloc_past, *]; done))
        have ex2 : ∀ Y, (ext WWx Y).cell? ⟨w.heap.size, 2, none⟩ = some (.int .u64 0) := by subst hWWx; intro Y; exact (ext_cell _ Y (by first | omega | (simp; done) | (simp; omega))).trans (by first | (simp (disch := first | omega | (simp; omega)) [World.cell?_alloc_past, *]; done) | (simp (disch := first | omega | (simp; omega)) [World.cell?_setCell_far, World.cell?_alloc_past, *]; done) | (simp (disch := first | omega | (simp; omega)) [World.cell?_alloc_past, *]; rfl) | (simp (disch := first | omega | (simp; omega)) [World.cell?_setCell_far, World.cell?_alloc_past, *]; rfl) | (simp [go_sem, *]; done) | (simp (disch := first | omega | (simp; omega) | (simp [go_sem, *]; done)) [go_sem, World.cell?_setCell_far, World.cell?_alloc_past, *]; done))
        have ex3 : ∀ Y, (ext WWx Y).cell? ⟨w.heap.size, 3, none⟩ = some (.int .i64 0) := by subst hWWx; intro Y; exact (ext_cell _ Y (by first | omega | (simp; done) | (simp; omega))).trans (by first | (simp (disch := first | omega | (simp; omega)) [World.cell?_alloc_past, *]; done) | (simp (disch := first | omega | (simp; omega)) [World.cell?_setCell_far, World.cell?_alloc_past, *]; done) | (simp (disch := first | omega | (simp; omega)) [World.cell?_alloc_past, *]; rfl) | (simp (disch := first | omega | (simp; omega)) [World.cell?_setCell_far, World.cell?_alloc_past, *]; rfl) | (simp [go_sem, *]; done) | (simp (disch := first | omega | (simp; omega) | (simp [go_sem, *]; done)) [go_sem, World.cell?_setCell_far, World.cell?_alloc_past, *]; done))
        have fzx0 : ∀ Y o, (ext WWx Y).frozen? ⟨w.heap.size, o, none⟩ = false := by subst hWWx; intro Y o; exact (ext_frozen _ Y (by first | omega | (simp; done) | (simp; omega))).trans (by first | (simp (disch := first | omega | (simp; omega)) [World.frozen?_alloc_past, *]; done) | (simp (disch := first | omega | (simp; omega)) [World.frozen?_alloc_past, *]; rfl))
        have bWx : Below w.heap.size w WWx := by subst hWWx; (repeat (first | assumption | exact Below.refl _ _ | refine Below.setCell ?_ (by first | omega | (simp; done) | (simp; omega)) _ | refine Below.alloc ?_ (by first | omega | (simp; done) | (simp; omega)) _ | refine Below.drew ?_ | (refine Below.trans ?_ (Below.mono (by assumption) (by first | omega | (simp; done) | (simp; omega))))))
        have lWx0 : w.heap.size < WWx.heap.size := by subst hWWx; first | omega | (simp; done) | (simp; omega)
        clear hWWx
        try simp only [List.append_eq, List.cons_append, List.nil_append]
        refine wp_region_ext (by kernel_rfl) (by kernel_rfl) ?_
        repeat (go_big_quiet_step ((first | (go_at_call 68; with_reducible exact qs (HH.out _)))))
        refine wpQuiet_nil ?_
        intro _ hw'
        obtain ⟨x, hw''⟩ := hw'
        subst hw''
        have px0 := ex0 x
        have px1 := ex1 x
        have px2 := ex2 x
        have px3 := ex3 x
        have gx0 := fzx0 x
        clear fzx0
        clear ex0 ex1 ex2 ex3
        have bwx := bWx.trans ((ext_below WWx x).mono bWx.size)
        have zwx := bwx.size
        have zex := (ext_below WWx x).size
        go_wp2_with (first | (go_at_call 69; (with_reducible refine (HP.out _ (HC.out.below (by (repeat (first | assumption | exact Below.refl _ _ | refine Below.setCell ?_ (by first | omega | (simp; done) | (simp; omega)) _ | refine Below.alloc ?_ (by first | omega | (simp; done) | (simp; omega)) _ | refine Below.drew ?_ | (refine Below.trans ?_ (Below.mono (by assumption) (by first | omega | (simp; done) | (simp; omega))))))))).mono ?_); rintro e w2 ⟨rfl, b2⟩; obtain ⟨c2, f2⟩ := bcell b2; have z2 := b2.size; (try simp at z2); have l2a : w.heap.size < w2.heap.size := (by omega); have n2a := Nat.ne_of_lt l2a; have d2a := fun o => c2 (w.heap.size) o (by first | omega | (simp; done) | (simp; omega)); have q2a := fun o => f2 (w.heap.size) o (by first | omega | (simp; done) | (simp; omega)); clear c2 f2) | (go_at_call 70; (with_reducible refine (HD.out _).mono ?_); rintro e w3 ⟨rfl, rfl⟩))
        refine bodyPost_ret (v := .tuple #[.agg #[.bool false, .int .u64 0, .int .u64 0, .int .i64 0], .bool false]) (by simp [results, Tryz.results39, go_sem, *]) rfl ⟨rfl, ?_⟩
        (repeat (first | assumption | exact Below.refl _ _ | refine Below.setCell ?_ (by first | omega | (simp; done) | (simp; omega)) _ | refine Below.alloc ?_ (by first | omega | (simp; done) | (simp; omega)) _ | refine Below.drew ?_ | (refine Below.trans ?_ (Below.mono (by assumption) (by first | omega | (simp; done) | (simp; omega))))))
      · rw [if_neg (by rintro (c | c | c); cases c; cases c; exact hn c)]
        have hn0 : (n == 0) = false := by rw [beq_eq_false_iff_ne]; exact hn
        clear hn
        go_enter Tryz.func39, Tryz.ntmps39
        go_wp2_with (go_at_call 67; (with_reducible refine (HL.out _).mono ?_); rintro e w1 ⟨rfl, rfl⟩)
        go_name_world WWx hWWx
        have ex0 : ∀ Y, (ext WWx Y).cell? ⟨w.heap.size, 0, none⟩ = some (.bool false) := by subst hWWx; intro Y; exact (ext_cell _ Y (by first | omega | (simp; done) | (simp; omega))).trans (by first | (simp (disch := first | omega | (simp; omega)) [World.cell?_alloc_past, *]; done) | (simp (disch := first | omega | (simp; omega)) [World.cell?_setCell_far, World.cell?_alloc_past, *]; done) | (simp (disch := first | omega | (simp; omega)) [World.cell?_alloc_past, *]; rfl) | (simp (disch := first | omega | (simp; omega)) [World.cell?_setCell_far, World.cell?_alloc_past, *]; rfl) | (simp [go_sem, *]; done) | (simp (disch := first | omega | (simp; omega) | (simp [go_sem, *]; done)) [go_sem, World.cell?_setCell_far, World.cell?_alloc_past, *]; done))
        have ex1 : ∀ Y, (ext WWx Y).cell? ⟨w.heap.size, 1, none⟩ = some (.int .u64 0) := by subst hWWx; intro Y; exact (ext_cell _ Y (by first | omega | (simp; done) | (simp; omega))).trans (by first | (simp (disch := first | omega | (simp; omega)) [World.cell?_alloc_past, *]; done) | (simp (disch := first | omega | (simp; omega)) [World.cell?_setCell_far, World.cell?_alloc_past, *]; done) | (simp (disch := first | omega | (simp; omega)) [World.cell?_alloc_past, *]; rfl) | (simp (disch := first | omega | (simp; omega)) [World.cell?_setCell_far, World.cell?_alloc_past, *]; rfl) | (simp [go_sem, *]; done) | (simp (disch := first | omega | (simp; omega) | (simp [go_sem, *]; done)) [go_sem, World.cell?_setCell_far, World.cell?_alloc_past, *]; done))
        have ex2 : ∀ Y, (ext WWx Y).cell? ⟨w.heap.size, 2, none⟩ = some (.int .u64 0) := by subst hWWx; intro Y; exact (ext_cell _ Y (by first | omega | (simp; done) | (simp; omega))).trans (by first | (simp (disch := first | omega | (simp; omega)) [World.cell?_alloc_past, *]; done) | (simp (disch := first | omega | (simp; omega)) [World.cell?_setCell_far, World.cell?_alloc_past, *]; done) | (simp (disch := first | omega | (simp; omega)) [World.cell?_alloc_past, *]; rfl) | (simp (disch := first | omega | (simp; omega)) [World.cell?_setCell_far, World.cell?_alloc_past, *]; rfl) | (simp [go_sem, *]; done) | (simp (disch := first | omega | (simp; omega) | (simp [go_sem, *]; done)) [go_sem, World.cell?_setCell_far, World.cell?_alloc_past, *]; done))
        have ex3 : ∀ Y, (ext WWx Y).cell? ⟨w.heap.size, 3, none⟩ = some (.int .i64 0) := by subst hWWx; intro Y; exact (ext_cell _ Y (by first | omega | (simp; done) | (simp; omega))).trans (by first | (simp (disch := first | omega | (simp; omega)) [World.cell?_alloc_past, *]; done) | (simp (disch := first | omega | (simp; omega)) [World.cell?_setCell_far, World.cell?_alloc_past, *]; done) | (simp (disch := first | omega | (simp; omega)) [World.cell?_alloc_past, *]; rfl) | (simp (disch := first | omega | (simp; omega)) [World.cell?_setCell_far, World.cell?_alloc_past, *]; rfl) | (simp [go_sem, *]; done) | (simp (disch := first | omega | (simp; omega) | (simp [go_sem, *]; done)) [go_sem, World.cell?_setCell_far, World.cell?_alloc_past, *]; done))
        have fzx0 : ∀ Y o, (ext WWx Y).frozen? ⟨w.heap.size, o, none⟩ = false := by subst hWWx; intro Y o; exact (ext_frozen _ Y (by first | omega | (simp; done) | (simp; omega))).trans (by first | (simp (disch := first | omega | (simp; omega)) [World.frozen?_alloc_past, *]; done) | (simp (disch := first | omega | (simp; omega)) [World.frozen?_alloc_past, *]; rfl))
        have bWx : Below w.heap.size w WWx := by subst hWWx; (repeat (first | assumption | exact Below.refl _ _ | refine Below.setCell ?_ (by first | omega | (simp; done) | (simp; omega)) _ | refine Below.alloc ?_ (by first | omega | (simp; done) | (simp; omega)) _ | refine Below.drew ?_ | (refine Below.trans ?_ (Below.mono (by assumption) (by first | omega | (simp; done) | (simp; omega))))))
        have lWx0 : w.heap.size < WWx.heap.size := by subst hWWx; first | omega | (simp; done) | (simp; omega)
        clear hWWx
        try simp only [List.append_eq, List.cons_append, List.nil_append]
        refine wp_region_ext (by kernel_rfl) (by kernel_rfl) ?_
        repeat (go_big_quiet_step ((first | (go_at_call 68; with_reducible exact qs (HH.out _)))))
        refine wpQuiet_nil ?_
        intro _ hw'
        obtain ⟨x, hw''⟩ := hw'
        subst hw''
        have px0 := ex0 x
        have px1 := ex1 x
        have px2 := ex2 x
        have px3 := ex3 x
        have gx0 := fzx0 x
        clear fzx0
        clear ex0 ex1 ex2 ex3
        have bwx := bWx.trans ((ext_below WWx x).mono bWx.size)
        have zwx := bwx.size
        have zex := (ext_below WWx x).size
        go_wp2_with (first | (go_at_call 69; (with_reducible refine (HP.out _ (HC.out.below (by (repeat (first | assumption | exact Below.refl _ _ | refine Below.setCell ?_ (by first | omega | (simp; done) | (simp; omega)) _ | refine Below.alloc ?_ (by first | omega | (simp; done) | (simp; omega)) _ | refine Below.drew ?_ | (refine Below.trans ?_ (Below.mono (by assumption) (by first | omega | (simp; done) | (simp; omega))))))))).mono ?_); rintro e w2 ⟨rfl, b2⟩; obtain ⟨c2, f2⟩ := bcell b2; have z2 := b2.size; (try simp at z2); have l2a : w.heap.size < w2.heap.size := (by omega); have n2a := Nat.ne_of_lt l2a; have d2a := fun o => c2 (w.heap.size) o (by first | omega | (simp; done) | (simp; omega)); have q2a := fun o => f2 (w.heap.size) o (by first | omega | (simp; done) | (simp; omega)); clear c2 f2) | (go_at_call 70; (with_reducible refine (HD.out _).mono ?_); rintro e w3 ⟨rfl, rfl⟩))
        refine bodyPost_ret (v := .tuple #[.agg #[.bool a.v6, .int .u64 a.hi, .int .u64 a.lo, .int .i64 n], .bool true]) (by simp [results, Tryz.results39, go_sem, *]) rfl ⟨rfl, ?_⟩
        (repeat (first | assumption | exact Below.refl _ _ | refine Below.setCell ?_ (by first | omega | (simp; done) | (simp; omega)) _ | refine Below.alloc ?_ (by first | omega | (simp; done) | (simp; omega)) _ | refine Below.drew ?_ | (refine Below.trans ?_ (Below.mono (by assumption) (by first | omega | (simp; done) | (simp; omega))))))
    · have hb0 : ((s[0].toNat : Int) != 91) = true := by
        rw [bne_iff_ne]; intro c
        exact hb (hhead.2 (byte_eq (by rw [c]; rfl)))
      have hb1 : ((s[0].toNat : Int) != (((⟨#[91]⟩ : ByteArray)[0]'(by decide)).toNat : Int)) = true := hb0
      by_cases h58 : (58 : UInt8) ∈ h
      · rw [if_pos ⟨hb, h58⟩]
        rw [decide_eq_true h58] at hH
        have HH := Lib.hid hH
        clear hH hhead hb h58
        unfold zeroE
        go_enter Tryz.func39, Tryz.ntmps39
        go_wp2_with (go_at_call 67; (with_reducible refine (HL.out _).mono ?_); rintro e w1 ⟨rfl, rfl⟩)
        go_name_world WWx hWWx
        have ex0 : ∀ Y, (ext WWx Y).cell? ⟨w.heap.size, 0, none⟩ = some (.bool false) := by subst hWWx; intro Y; exact (ext_cell _ Y (by first | omega | (simp; done) | (simp; omega))).trans (by first | (simp (disch := first | omega | (simp; omega)) [World.cell?_alloc_past, *]; done) | (simp (disch := first | omega | (simp; omega)) [World.cell?_setCell_far, World.cell?_alloc_past, *]; done) | (simp (disch := first | omega | (simp; omega)) [World.cell?_alloc_past, *]; rfl) | (simp (disch := first | omega | (simp; omega)) [World.cell?_setCell_far, World.cell?_alloc_past, *]; rfl) | (simp [go_sem, *]; done) | (simp (disch := first | omega | (simp; omega) | (simp [go_sem, *]; done)) [go_sem, World.cell?_setCell_far, World.cell?_alloc_past, *]; done))
        have ex1 : ∀ Y, (ext WWx Y).cell? ⟨w.heap.size, 1, none⟩ = some (.int .u64 0) := by subst hWWx; intro Y; exact (ext_cell _ Y (by first | omega | (simp; done) | (simp; omega))).trans (by first | (simp (disch := first | omega | (simp; omega)) [World.cell?_alloc_past, *]; done) | (simp (disch := first | omega | (simp; omega)) [World.cell?_setCell_far, World.cell?_alloc_past, *]; done) | (simp (disch := first | omega | (simp; omega)) [World.cell?_alloc_past, *]; rfl) | (simp (disch := first | omega | (simp; omega)) [World.cell?_setCell_far, World.cell?_alloc_past, *]; rfl) | (simp [go_sem, *]; done) | (simp (disch := first | omega | (simp; omega) | (simp [go_sem, *]; done)) [go_sem, World.cell?_setCell_far, World.cell?_alloc_past, *]; done))
        have ex2 : ∀ Y, (ext WWx Y).cell? ⟨w.heap.size, 2, none⟩ = some (.int .u64 0) := by subst hWWx; intro Y; exact (ext_cell _ Y (by first | omega | (simp; done) | (simp; omega))).trans (by first | (simp (disch := first | omega | (simp; omega)) [World.cell?_alloc_past, *]; done) | (simp (disch := first | omega | (simp; omega)) [World.cell?_setCell_far, World.cell?_alloc_past, *]; done) | (simp (disch := first | omega | (simp; omega)) [World.cell?_alloc_past, *]; rfl) | (simp (disch := first | omega | (simp; omega)) [World.cell?_setCell_far, World.cell?_alloc_past, *]; rfl) | (simp [go_sem, *]; done) | (simp (disch := first | omega | (simp; omega) | (simp [go_sem, *]; done)) [go_sem, World.cell?_setCell_far, World.cell?_alloc_past, *]; done))
        have ex3 : ∀ Y, (ext WWx Y).cell? ⟨w.heap.size, 3, none⟩ = some (.int .i64 0) := by subst hWWx; intro Y; exact (ext_cell _ Y (by first | omega | (simp; done) | (simp; omega))).trans (by first | (simp (disch := first | omega | (simp; omega)) [World.cell?_alloc_past, *]; done) | (simp (disch := first | omega | (simp; omega)) [World.cell?_setCell_far, World.cell?_alloc_past, *]; done) | (simp (disch := first | omega | (simp; omega)) [World.cell?_alloc_past, *]; rfl) | (simp (disch := first | omega | (simp; omega)) [World.cell?_setCell_far, World.cell?_alloc_past, *]; rfl) | (simp [go_sem, *]; done) | (simp (disch := first | omega | (simp; omega) | (simp [go_sem, *]; done)) [go_sem, World.cell?_setCell_far, World.cell?_alloc_past, *]; done))
        have fzx0 : ∀ Y o, (ext WWx Y).frozen? ⟨w.heap.size, o, none⟩ = false := by subst hWWx; intro Y o; exact (ext_frozen _ Y (by first | omega | (simp; done) | (simp; omega))).trans (by first | (simp (disch := first | omega | (simp; omega)) [World.frozen?_alloc_past, *]; done) | (simp (disch := first | omega | (simp; omega)) [World.frozen?_alloc_past, *]; rfl))
        have bWx : Below w.heap.size w WWx := by subst hWWx; (repeat (first | assumption | exact Below.refl _ _ | refine Below.setCell ?_ (by first | omega | (simp; done) | (simp; omega)) _ | refine Below.alloc ?_ (by first | omega | (simp; done) | (simp; omega)) _ | refine Below.drew ?_ | (refine Below.trans ?_ (Below.mono (by assumption) (by first | omega | (simp; done) | (simp; omega))))))
        have lWx0 : w.heap.size < WWx.heap.size := by subst hWWx; first | omega | (simp; done) | (simp; omega)
        clear hWWx
        try simp only [List.append_eq, List.cons_append, List.nil_append]
        refine wp_region_ext (by kernel_rfl) (by kernel_rfl) ?_
        repeat (go_big_quiet_step ((first | (go_at_call 68; with_reducible exact qs (HH.out _)))))
        refine wpQuiet_nil ?_
        intro _ hw'
        obtain ⟨x, hw''⟩ := hw'
        subst hw''
        have px0 := ex0 x
        have px1 := ex1 x
        have px2 := ex2 x
        have px3 := ex3 x
        have gx0 := fzx0 x
        clear fzx0
        clear ex0 ex1 ex2 ex3
        have bwx := bWx.trans ((ext_below WWx x).mono bWx.size)
        have zwx := bwx.size
        have zex := (ext_below WWx x).size
        go_wp2_with fail
        refine bodyPost_ret (v := .tuple #[.agg #[.bool false, .int .u64 0, .int .u64 0, .int .i64 0], .bool false]) (by simp [results, Tryz.results39, go_sem, *]) rfl ⟨rfl, ?_⟩
        (repeat (first | assumption | exact Below.refl _ _ | refine Below.setCell ?_ (by first | omega | (simp; done) | (simp; omega)) _ | refine Below.alloc ?_ (by first | omega | (simp; done) | (simp; omega)) _ | refine Below.drew ?_ | (refine Below.trans ?_ (Below.mono (by assumption) (by first | omega | (simp; done) | (simp; omega))))))
      rw [if_neg (fun c => h58 c.2)]
      rw [decide_eq_false h58] at hH
      have HH := Lib.hid hH
      clear hH hhead hb h58
      cases ok with
      | false =>
        rw [if_pos (Or.inl rfl)]
        unfold zeroE
        go_enter Tryz.func39, Tryz.ntmps39
        go_wp2_with (go_at_call 67; (with_reducible refine (HL.out _).mono ?_); rintro e w1 ⟨rfl, rfl⟩)
        go_name_world WWx hWWx
        have ex0 : ∀ Y, (ext WWx Y).cell? ⟨w.heap.size, 0, none⟩ = some (.bool false) := by subst hWWx; intro Y; exact (ext_cell _ Y (by first | omega | (simp; done) | (simp; omega))).trans (by first | (simp (disch := first | omega | (simp; omega)) [World.cell?_alloc_past, *]; done) | (simp (disch := first | omega | (simp; omega)) [World.cell?_setCell_far, World.cell?_alloc_past, *]; done) | (simp (disch := first | omega | (simp; omega)) [World.cell?_alloc_past, *]; rfl) | (simp (disch := first | omega | (simp; omega)) [World.cell?_setCell_far, World.cell?_alloc_past, *]; rfl) | (simp [go_sem, *]; done) | (simp (disch := first | omega | (simp; omega) | (simp [go_sem, *]; done)) [go_sem, World.cell?_setCell_far, World.cell?_alloc_past, *]; done))
        have ex1 : ∀ Y, (ext WWx Y).cell? ⟨w.heap.size, 1, none⟩ = some (.int .u64 0) := by subst hWWx; intro Y; exact (ext_cell _ Y (by first | omega | (simp; done) | (simp; omega))).trans (by first | (simp (disch := first | omega | (simp; omega)) [World.cell?_alloc_past, *]; done) | (simp (disch := first | omega | (simp; omega)) [World.cell?_setCell_far, World.cell?_alloc_past, *]; done) | (simp (disch := first | omega | (simp; omega)) [World.cell?_alloc_past, *]; rfl) | (simp (disch := first | omega | (simp; omega)) [World.cell?_setCell_far, World.cell?_alloc_past, *]; rfl) | (simp [go_sem, *]; done) | (simp (disch := first | omega | (simp; omega) | (simp [go_sem, *]; done)) [go_sem, World.cell?_setCell_far, World.cell?_alloc_past, *]; done))
        have ex2 : ∀ Y, (ext WWx Y).cell? ⟨w.heap.size, 2, none⟩ = some (.int .u64 0) := by subst hWWx; intro Y; exact (ext_cell _ Y (by first | omega | (simp; done) | (simp; omega))).trans (by first | (simp (disch := first | omega | (simp; omega)) [World.cell?_alloc_past, *]; done) | (simp (disch := first | omega | (simp; omega)) [World.cell?_setCell_far, World.cell?_alloc_past, *]; done) | (simp (disch := first | omega | (simp; omega)) [World.cell?_alloc_past, *]; rfl) | (simp (disch := first | omega | (simp; omega)) [World.cell?_setCell_far, World.cell?_alloc_past, *]; rfl) | (simp [go_sem, *]; done) | (simp (disch := first | omega | (simp; omega) | (simp [go_sem, *]; done)) [go_sem, World.cell?_setCell_far, World.cell?_alloc_past, *]; done))
        have ex3 : ∀ Y, (ext WWx Y).cell? ⟨w.heap.size, 3, none⟩ = some (.int .i64 0) := by subst hWWx; intro Y; exact (ext_cell _ Y (by first | omega | (simp; done) | (simp; omega))).trans (by first | (simp (disch := first | omega | (simp; omega)) [World.cell?_alloc_past, *]; done) | (simp (disch := first | omega | (simp; omega)) [World.cell?_setCell_far, World.cell?_alloc_past, *]; done) | (simp (disch := first | omega | (simp; omega)) [World.cell?_alloc_past, *]; rfl) | (simp (disch := first | omega | (simp; omega)) [World.cell?_setCell_far, World.cell?_alloc_past, *]; rfl) | (simp [go_sem, *]; done) | (simp (disch := first | omega | (simp; omega) | (simp [go_sem, *]; done)) [go_sem, World.cell?_setCell_far, World.cell?_alloc_past, *]; done))
        have fzx0 : ∀ Y o, (ext WWx Y).frozen? ⟨w.heap.size, o, none⟩ = false := by subst hWWx; intro Y o; exact (ext_frozen _ Y (by first | omega | (simp; done) | (simp; omega))).trans (by first | (simp (disch := first | omega | (simp; omega)) [World.frozen?_alloc_past, *]; done) | (simp (disch := first | omega | (simp; omega)) [World.frozen?_alloc_past, *]; rfl))
        have bWx : Below w.heap.size w WWx := by subst hWWx; (repeat (first | assumption | exact Below.refl _ _ | refine Below.setCell ?_ (by first | omega | (simp; done) | (simp; omega)) _ | refine Below.alloc ?_ (by first | omega | (simp; done) | (simp; omega)) _ | refine Below.drew ?_ | (refine Below.trans ?_ (Below.mono (by assumption) (by first | omega | (simp; done) | (simp; omega))))))
        have lWx0 : w.heap.size < WWx.heap.size := by subst hWWx; first | omega | (simp; done) | (simp; omega)
        clear hWWx
        try simp only [List.append_eq, List.cons_append, List.nil_append]
        refine wp_region_ext (by kernel_rfl) (by kernel_rfl) ?_
        repeat (go_big_quiet_step ((first | (go_at_call 68; with_reducible exact qs (HH.out _)))))
        refine wpQuiet_nil ?_
        intro _ hw'
        obtain ⟨x, hw''⟩ := hw'
        subst hw''
        have px0 := ex0 x
        have px1 := ex1 x
        have px2 := ex2 x
        have px3 := ex3 x
        have gx0 := fzx0 x
        clear fzx0
        clear ex0 ex1 ex2 ex3
        have bwx := bWx.trans ((ext_below WWx x).mono bWx.size)
        have zwx := bwx.size
        have zex := (ext_below WWx x).size
        go_wp2_with (first | (go_at_call 69; (with_reducible refine (HP.out _ (HC.out.below (by (repeat (first | assumption | exact Below.refl _ _ | refine Below.setCell ?_ (by first | omega | (simp; done) | (simp; omega)) _ | refine Below.alloc ?_ (by first | omega | (simp; done) | (simp; omega)) _ | refine Below.drew ?_ | (refine Below.trans ?_ (Below.mono (by assumption) (by first | omega | (simp; done) | (simp; omega))))))))).mono ?_); rintro e w2 ⟨rfl, b2⟩; obtain ⟨c2, f2⟩ := bcell b2; have z2 := b2.size; (try simp at z2); have l2a : w.heap.size < w2.heap.size := (by omega); have n2a := Nat.ne_of_lt l2a; have d2a := fun o => c2 (w.heap.size) o (by first | omega | (simp; done) | (simp; omega)); have q2a := fun o => f2 (w.heap.size) o (by first | omega | (simp; done) | (simp; omega)); clear c2 f2) | (go_at_call 70; (with_reducible refine (HD.out _).mono ?_); rintro e w3 ⟨rfl, rfl⟩))
        refine bodyPost_ret (v := .tuple #[.agg #[.bool false, .int .u64 0, .int .u64 0, .int .i64 0], .bool false]) (by simp [results, Tryz.results39, go_sem, *]) rfl ⟨rfl, ?_⟩
        (repeat (first | assumption | exact Below.refl _ _ | refine Below.setCell ?_ (by first | omega | (simp; done) | (simp; omega)) _ | refine Below.alloc ?_ (by first | omega | (simp; done) | (simp; omega)) _ | refine Below.drew ?_ | (refine Below.trans ?_ (Below.mono (by assumption) (by first | omega | (simp; done) | (simp; omega))))))
      | true =>
      cases ok2 with
      | false =>
        rw [if_pos (Or.inr (Or.inl rfl))]
        unfold zeroE
        go_enter Tryz.func39, Tryz.ntmps39
        go_wp2_with (go_at_call 67; (with_reducible refine (HL.out _).mono ?_); rintro e w1 ⟨rfl, rfl⟩)
        go_name_world WWx hWWx
        have ex0 : ∀ Y, (ext WWx Y).cell? ⟨w.heap.size, 0, none⟩ = some (.bool false) := by subst hWWx; intro Y; exact (ext_cell _ Y (by first | omega | (simp; done) | (simp; omega))).trans (by first | (simp (disch := first | omega | (simp; omega)) [World.cell?_alloc_past, *]; done) | (simp (disch := first | omega | (simp; omega)) [World.cell?_setCell_far, World.cell?_alloc_past, *]; done) | (simp (disch := first | omega | (simp; omega)) [World.cell?_alloc_past, *]; rfl) | (simp (disch := first | omega | (simp; omega)) [World.cell?_setCell_far, World.cell?_alloc_past, *]; rfl) | (simp [go_sem, *]; done) | (simp (disch := first | omega | (simp; omega) | (simp [go_sem, *]; done)) [go_sem, World.cell?_setCell_far, World.cell?_alloc_past, *]; done))
        have ex1 : ∀ Y, (ext WWx Y).cell? ⟨w.heap.size, 1, none⟩ = some (.int .u64 0) := by subst hWWx; intro Y; exact (ext_cell _ Y (by first | omega | (simp; done) | (simp; omega))).trans (by first | (simp (disch := first | omega | (simp; omega)) [World.cell?_alloc_past, *]; done) | (simp (disch := first | omega | (simp; omega)) [World.cell?_setCell_far, World.cell?_alloc_past, *]; done) | (simp (disch := first | omega | (simp; omega)) [World.cell?_alloc_past, *]; rfl) | (simp (disch := first | omega | (simp; omega)) [World.cell?_setCell_far, World.cell?_alloc_past, *]; rfl) | (simp [go_sem, *]; done) | (simp (disch := first | omega | (simp; omega) | (simp [go_sem, *]; done)) [go_sem, World.cell?_setCell_far, World.cell?_alloc_past, *]; done))
        have ex2 : ∀ Y, (ext WWx Y).cell? ⟨w.heap.size, 2, none⟩ = some (.int .u64 0) := by subst hWWx; intro Y; exact (ext_cell _ Y (by first | omega | (simp; done) | (simp; omega))).trans (by first | (simp (disch := first | omega | (simp; omega)) [World.cell?_alloc_past, *]; done) | (simp (disch := first | omega | (simp; omega)) [World.cell?_setCell_far, World.cell?_alloc_past, *]; done) | (simp (disch := first | omega | (simp; omega)) [World.cell?_alloc_past, *]; rfl) | (simp (disch := first | omega | (simp; omega)) [World.cell?_setCell_far, World.cell?_alloc_past, *]; rfl) | (simp [go_sem, *]; done) | (simp (disch := first | omega | (simp; omega) | (simp [go_sem, *]; done)) [go_sem, World.cell?_setCell_far, World.cell?_alloc_past, *]; done))
        have ex3 : ∀ Y, (ext WWx Y).cell? ⟨w.heap.size, 3, none⟩ = some (.int .i64 0) := by subst hWWx; intro Y; exact (ext_cell _ Y (by first | omega | (simp; done) | (simp; omega))).trans (by first | (simp (disch := first | omega | (simp; omega)) [World.cell?_alloc_past, *]; done) | (simp (disch := first | omega | (simp; omega)) [World.cell?_setCell_far, World.cell?_alloc_past, *]; done) | (simp (disch := first | omega | (simp; omega)) [World.cell?_alloc_past, *]; rfl) | (simp (disch := first | omega | (simp; omega)) [World.cell?_setCell_far, World.cell?_alloc_past, *]; rfl) | (simp [go_sem, *]; done) | (simp (disch := first | omega | (simp; omega) | (simp [go_sem, *]; done)) [go_sem, World.cell?_setCell_far, World.cell?_alloc_past, *]; done))
        have fzx0 : ∀ Y o, (ext WWx Y).frozen? ⟨w.heap.size, o, none⟩ = false := by subst hWWx; intro Y o; exact (ext_frozen _ Y (by first | omega | (simp; done) | (simp; omega))).trans (by first | (simp (disch := first | omega | (simp; omega)) [World.frozen?_alloc_past, *]; done) | (simp (disch := first | omega | (simp; omega)) [World.frozen?_alloc_past, *]; rfl))
        have bWx : Below w.heap.size w WWx := by subst hWWx; (repeat (first | assumption | exact Below.refl _ _ | refine Below.setCell ?_ (by first | omega | (simp; done) | (simp; omega)) _ | refine Below.alloc ?_ (by first | omega | (simp; done) | (simp; omega)) _ | refine Below.drew ?_ | (refine Below.trans ?_ (Below.mono (by assumption) (by first | omega | (simp; done) | (simp; omega))))))
        have lWx0 : w.heap.size < WWx.heap.size := by subst hWWx; first | omega | (simp; done) | (simp; omega)
        clear hWWx
        try simp only [List.append_eq, List.cons_append, List.nil_append]
        refine wp_region_ext (by kernel_rfl) (by kernel_rfl) ?_
        repeat (go_big_quiet_step ((first | (go_at_call 68; with_reducible exact qs (HH.out _)))))
        refine wpQuiet_nil ?_
        intro _ hw'
        obtain ⟨x, hw''⟩ := hw'
        subst hw''
        have px0 := ex0 x
        have px1 := ex1 x
        have px2 := ex2 x
        have px3 := ex3 x
        have gx0 := fzx0 x
        clear fzx0
        clear ex0 ex1 ex2 ex3
        have bwx := bWx.trans ((ext_below WWx x).mono bWx.size)
        have zwx := bwx.size
        have zex := (ext_below WWx x).size
        go_wp2_with (first | (go_at_call 69; (with_reducible refine (HP.out _ (HC.out.below (by (repeat (first | assumption | exact Below.refl _ _ | refine Below.setCell ?_ (by first | omega | (simp; done) | (simp; omega)) _ | refine Below.alloc ?_ (by first | omega | (simp; done) | (simp; omega)) _ | refine Below.drew ?_ | (refine Below.trans ?_ (Below.mono (by assumption) (by first | omega | (simp; done) | (simp; omega))))))))).mono ?_); rintro e w2 ⟨rfl, b2⟩; obtain ⟨c2, f2⟩ := bcell b2; have z2 := b2.size; (try simp at z2); have l2a : w.heap.size < w2.heap.size := (by omega); have n2a := Nat.ne_of_lt l2a; have d2a := fun o => c2 (w.heap.size) o (by first | omega | (simp; done) | (simp; omega)); have q2a := fun o => f2 (w.heap.size) o (by first | omega | (simp; done) | (simp; omega)); clear c2 f2) | (go_at_call 70; (with_reducible refine (HD.out _).mono ?_); rintro e w3 ⟨rfl, rfl⟩))
        refine bodyPost_ret (v := .tuple #[.agg #[.bool false, .int .u64 0, .int .u64 0, .int .i64 0], .bool false]) (by simp [results, Tryz.results39, go_sem, *]) rfl ⟨rfl, ?_⟩
        (repeat (first | assumption | exact Below.refl _ _ | refine Below.setCell ?_ (by first | omega | (simp; done) | (simp; omega)) _ | refine Below.alloc ?_ (by first | omega | (simp; done) | (simp; omega)) _ | refine Below.drew ?_ | (refine Below.trans ?_ (Below.mono (by assumption) (by first | omega | (simp; done) | (simp; omega))))))
      | true =>
      by_cases hn : n = 0
      · rw [if_pos (Or.inr (Or.inr hn))]
        have hn0 : (n == 0) = true := by rw [beq_iff_eq]; exact hn
        clear hn
        unfold zeroE
        go_enter Tryz.func39, Tryz.ntmps39
        go_wp2_with (go_at_call 67; (with_reducible refine (HL.out _).mono ?_); rintro e w1 ⟨rfl, rfl⟩)
        go_name_world WWx hWWx
        have ex0 : ∀ Y, (ext WWx Y).cell? ⟨w.heap.size, 0, none⟩ = some (.bool false) := by subst hWWx; intro Y; exact (ext_cell _ Y (by first | omega | (simp; done) | (simp; omega))).trans (by first | (simp (disch := first | omega | (simp; omega)) [World.cell?_alloc_past, *]; done) | (simp (disch := first | omega | (simp; omega)) [World.cell?_setCell_far, World.cell?_alloc_past, *]; done) | (simp (disch := first | omega | (simp; omega)) [World.cell?_alloc_past, *]; rfl) | (simp (disch := first | omega | (simp; omega)) [World.cell?_setCell_far, World.cell?_alloc_past, *]; rfl) | (simp [go_sem, *]; done) | (simp (disch := first | omega | (simp; omega) | (simp [go_sem, *]; done)) [go_sem, World.cell?_setCell_far, World.cell?_alloc_past, *]; done))
        have ex1 : ∀ Y, (ext WWx Y).cell? ⟨w.heap.size, 1, none⟩ = some (.int .u64 0) := by subst hWWx; intro Y; exact (ext_cell _ Y (by first | omega | (simp; done) | (simp; omega))).trans (by first | (simp (disch := first | omega | (simp; omega)) [World.cell?_alloc_past, *]; done) | (simp (disch := first | omega | (simp; omega)) [World.cell?_setCell_far, World.cell?_alloc_past, *]; done) | (simp (disch := first | omega | (simp; omega)) [World.cell?_alloc_past, *]; rfl) | (simp (disch := first | omega | (simp; omega)) [World.cell?_setCell_far, World.cell?_alloc_past, *]; rfl) | (simp [go_sem, *]; done) | (simp (disch := first | omega | (simp; omega) | (simp [go_sem, *]; done)) [go_sem, World.cell?_setCell_far, World.cell?_alloc_past, *]; done))
        have ex2 : ∀ Y, (ext WWx Y).cell? ⟨w.heap.size, 2, none⟩ = some (.int .u64 0) := by subst hWWx; intro Y; exact (ext_cell _ Y (by first | omega | (simp; done) | (simp; omega))).trans (by first | (simp (disch := first | omega | (simp; omega)) [World.cell?_alloc_past, *]; done) | (simp (disch := first | omega | (simp; omega)) [World.cell?_setCell_far, World.cell?_alloc_past, *]; done) | (simp (disch := first | omega | (simp; omega)) [World.cell?_alloc_past, *]; rfl) | (simp (disch := first | omega | (simp; omega)) [World.cell?_setCell_far, World.cell?_alloc_past, *]; rfl) | (simp [go_sem, *]; done) | (simp (disch := first | omega | (simp; omega) | (simp [go_sem, *]; done)) [go_sem, World.cell?_setCell_far, World.cell?_alloc_past, *]; done))
        have ex3 : ∀ Y, (ext WWx Y).cell? ⟨w.heap.size, 3, none⟩ = some (.int .i64 0) := by subst hWWx; intro Y; exact (ext_cell _ Y (by first | omega | (simp; done) | (simp; omega))).trans (by first | (simp (disch := first | omega | (simp; omega)) [World.cell?_alloc_past, *]; done) | (simp (disch := first | omega | (simp; omega)) [World.cell?_setCell_far, World.cell?_alloc_past, *]; done) | (simp (disch := first | omega | (simp; omega)) [World.cell?_alloc_past, *]; rfl) | (simp (disch := first | omega | (simp; omega)) [World.cell?_setCell_far, World.cell?_alloc_past, *]; rfl) | (simp [go_sem, *]; done) | (simp (disch := first | omega | (simp; omega) | (simp [go_sem, *]; done)) [go_sem, World.cell?_setCell_far, World.cell?_alloc_past, *]; done))
        have fzx0 : ∀ Y o, (ext WWx Y).frozen? ⟨w.heap.size, o, none⟩ = false := by subst hWWx; intro Y o; exact (ext_frozen _ Y (by first | omega | (simp; done) | (simp; omega))).trans (by first | (simp (disch := first | omega | (simp; omega)) [World.frozen?_alloc_past, *]; done) | (simp (disch := first | omega | (simp; omega)) [World.frozen?_alloc_past, *]; rfl))
        have bWx : Below w.heap.size w WWx := by subst hWWx; (repeat (first | assumption | exact Below.refl _ _ | refine Below.setCell ?_ (by first | omega | (simp; done) | (simp; omega)) _ | refine Below.alloc ?_ (by first | omega | (simp; done) | (simp; omega)) _ | refine Below.drew ?_ | (refine Below.trans ?_ (Below.mono (by assumption) (by first | omega | (simp; done) | (simp; omega))))))
        have lWx0 : w.heap.size < WWx.heap.size := by subst hWWx; first | omega | (simp; done) | (simp; omega)
        clear hWWx
        try simp only [List.append_eq, List.cons_append, List.nil_append]
        refine wp_region_ext (by kernel_rfl) (by kernel_rfl) ?_
        repeat (go_big_quiet_step ((first | (go_at_call 68; with_reducible exact qs (HH.out _)))))
        refine wpQuiet_nil ?_
        intro _ hw'
        obtain ⟨x, hw''⟩ := hw'
        subst hw''
        have px0 := ex0 x
        have px1 := ex1 x
        have px2 := ex2 x
        have px3 := ex3 x
        have gx0 := fzx0 x
        clear fzx0
        clear ex0 ex1 ex2 ex3
        have bwx := bWx.trans ((ext_below WWx x).mono bWx.size)
        have zwx := bwx.size
        have zex := (ext_below WWx x).size
        go_wp2_with (first | (go_at_call 69; (with_reducible refine (HP.out _ (HC.out.below (by (repeat (first | assumption | exact Below.refl _ _ | refine Below.setCell ?_ (by first | omega | (simp; done) | (simp; omega)) _ | refine Below.alloc ?_ (by first | omega | (simp; done) | (simp; omega)) _ | refine Below.drew ?_ | (refine Below.trans ?_ (Below.mono (by assumption) (by first | omega | (simp; done) | (simp; omega))))))))).mono ?_); rintro e w2 ⟨rfl, b2⟩; obtain ⟨c2, f2⟩ := bcell b2; have z2 := b2.size; (try simp at z2); have l2a : w.heap.size < w2.heap.size := (by omega); have n2a := Nat.ne_of_lt l2a; have d2a := fun o => c2 (w.heap.size) o (by first | omega | (simp; done) | (simp; omega)); have q2a := fun o => f2 (w.heap.size) o (by first | omega | (simp; done) | (simp; omega)); clear c2 f2) | (go_at_call 70; (with_reducible refine (HD.out _).mono ?_); rintro e w3 ⟨rfl, rfl⟩))
        refine bodyPost_ret (v := .tuple #[.agg #[.bool false, .int .u64 0, .int .u64 0, .int .i64 0], .bool false]) (by simp [results, Tryz.results39, go_sem, *]) rfl ⟨rfl, ?_⟩
        (repeat (first | assumption | exact Below.refl _ _ | refine Below.setCell ?_ (by first | omega | (simp; done) | (simp; omega)) _ | refine Below.alloc ?_ (by first | omega | (simp; done) | (simp; omega)) _ | refine Below.drew ?_ | (refine Below.trans ?_ (Below.mono (by assumption) (by first | omega | (simp; done) | (simp; omega))))))
      · rw [if_neg (by rintro (c | c | c); cases c; cases c; exact hn c)]
        have hn0 : (n == 0) = false := by rw [beq_eq_false_iff_ne]; exact hn
        clear hn
        go_enter Tryz.func39, Tryz.ntmps39
        go_wp2_with (go_at_call 67; (with_reducible refine (HL.out _).mono ?_); rintro e w1 ⟨rfl, rfl⟩)
        go_name_world WWx hWWx
        have ex0 : ∀ Y, (ext WWx Y).cell? ⟨w.heap.size, 0, none⟩ = some (.bool false) := by subst hWWx; intro Y; exact (ext_cell _ Y (by first | omega | (simp; done) | (simp; omega))).trans (by first | (simp (disch := first | omega | (simp; omega)) [World.cell?_alloc_past, *]; done) | (simp (disch := first | omega | (simp; omega)) [World.cell?_setCell_far, World.cell?_alloc_past, *]; done) | (simp (disch := first | omega | (simp; omega)) [World.cell?_alloc_past, *]; rfl) | (simp (disch := first | omega | (simp; omega)) [World.cell?_setCell_far, World.cell?_alloc_past, *]; rfl) | (simp [go_sem, *]; done) | (simp (disch := first | omega | (simp; omega) | (simp [go_sem, *]; done)) [go_sem, World.cell?_setCell_far, World.cell?_alloc_past, *]; done))
        have ex1 : ∀ Y, (ext WWx Y).cell? ⟨w.heap.size, 1, none⟩ = some (.int .u64 0) := by subst hWWx; intro Y; exact (ext_cell _ Y (by first | omega | (simp; done) | (simp; omega))).trans (by first | (simp (disch := first | omega | (simp; omega)) [World.cell?_alloc_past, *]; done) | (simp (disch := first | omega | (simp; omega)) [World.cell?_setCell_far, World.cell?_alloc_past, *]; done) | (simp (disch := first | omega | (simp; omega)) [World.cell?_alloc_past, *]; rfl) | (simp (disch := first | omega | (simp; omega)) [World.cell?_setCell_far, World.cell?_alloc_past, *]; rfl) | (simp [go_sem, *]; done) | (simp (disch := first | omega | (simp; omega) | (simp [go_sem, *]; done)) [go_sem, World.cell?_setCell_far, World.cell?_alloc_past, *]; done))
        have ex2 : ∀ Y, (ext WWx Y).cell? ⟨w.heap.size, 2, none⟩ = some (.int .u64 0) := by subst hWWx; intro Y; exact (ext_cell _ Y (by first | omega | (simp; done) | (simp; omega))).trans (by first | (simp (disch := first | omega | (simp; omega)) [World.cell?_alloc_past, *]; done) | (simp (disch := first | omega | (simp; omega)) [World.cell?_setCell_far, World.cell?_alloc_past, *]; done) | (simp (disch := first | omega | (simp; omega)) [World.cell?_alloc_past, *]; rfl) | (simp (disch := first | omega | (simp; omega)) [World.cell?_setCell_far, World.cell?_alloc_past, *]; rfl) | (simp [go_sem, *]; done) | (simp (disch := first | omega | (simp; omega) | (simp [go_sem, *]; done)) [go_sem, World.cell?_setCell_far, World.cell?_alloc_past, *]; done))
        have ex3 : ∀ Y, (ext WWx Y).cell? ⟨w.heap.size, 3, none⟩ = some (.int .i64 0) := by subst hWWx; intro Y; exact (ext_cell _ Y (by first | omega | (simp; done) | (simp; omega))).trans (by first | (simp (disch := first | omega | (simp; omega)) [World.cell?_alloc_past, *]; done) | (simp (disch := first | omega | (simp; omega)) [World.cell?_setCell_far, World.cell?_alloc_past, *]; done) | (simp (disch := first | omega | (simp; omega)) [World.cell?_alloc_past, *]; rfl) | (simp (disch := first | omega | (simp; omega)) [World.cell?_setCell_far, World.cell?_alloc_past, *]; rfl) | (simp [go_sem, *]; done) | (simp (disch := first | omega | (simp; omega) | (simp [go_sem, *]; done)) [go_sem, World.cell?_setCell_far, World.cell?_alloc_past, *]; done))
        have fzx0 : ∀ Y o, (ext WWx Y).frozen? ⟨w.heap.size, o, none⟩ = false := by subst hWWx; intro Y o; exact (ext_frozen _ Y (by first | omega | (simp; done) | (simp; omega))).trans (by first | (simp (disch := first | omega | (simp; omega)) [World.frozen?_alloc_past, *]; done) | (simp (disch := first | omega | (simp; omega)) [World.frozen?_alloc_past, *]; rfl))
        have bWx : Below w.heap.size w WWx := by subst hWWx; (repeat (first | assumption | exact Below.refl _ _ | refine Below.setCell ?_ (by first | omega | (simp; done) | (simp; omega)) _ | refine Below.alloc ?_ (by first | omega | (simp; done) | (simp; omega)) _ | refine Below.drew ?_ | (refine Below.trans ?_ (Below.mono (by assumption) (by first | omega | (simp; done) | (simp; omega))))))
        have lWx0 : w.heap.size < WWx.heap.size := by subst hWWx; first | omega | (simp; done) | (simp; omega)
        clear hWWx
        try simp only [List.append_eq, List.cons_append, List.nil_append]
        refine wp_region_ext (by kernel_rfl) (by kernel_rfl) ?_
        repeat (go_big_quiet_step ((first | (go_at_call 68; with_reducible exact qs (HH.out _)))))
        refine wpQuiet_nil ?_
        intro _ hw'
        obtain ⟨x, hw''⟩ := hw'
        subst hw''
        have px0 := ex0 x
        have px1 := ex1 x
        have px2 := ex2 x
        have px3 := ex3 x
        have gx0 := fzx0 x
        clear fzx0
        clear ex0 ex1 ex2 ex3
        have bwx := bWx.trans ((ext_below WWx x).mono bWx.size)
        have zwx := bwx.size
        have zex := (ext_below WWx x).size
        go_wp2_with (first | (go_at_call 69; (with_reducible refine (HP.out _ (HC.out.below (by (repeat (first | assumption | exact Below.refl _ _ | refine Below.setCell ?_ (by first | omega | (simp; done) | (simp; omega)) _ | refine Below.alloc ?_ (by first | omega | (simp; done) | (simp; omega)) _ | refine Below.drew ?_ | (refine Below.trans ?_ (Below.mono (by assumption) (by first | omega | (simp; done) | (simp; omega))))))))).mono ?_); rintro e w2 ⟨rfl, b2⟩; obtain ⟨c2, f2⟩ := bcell b2; have z2 := b2.size; (try simp at z2); have l2a : w.heap.size < w2.heap.size := (by omega); have n2a := Nat.ne_of_lt l2a; have d2a := fun o => c2 (w.heap.size) o (by first | omega | (simp; done) | (simp; omega)); have q2a := fun o => f2 (w.heap.size) o (by first | omega | (simp; done) | (simp; omega)); clear c2 f2) | (go_at_call 70; (with_reducible refine (HD.out _).mono ?_); rintro e w3 ⟨rfl, rfl⟩))
        refine bodyPost_ret (v := .tuple #[.agg #[.bool a.v6, .int .u64 a.hi, .int .u64 a.lo, .int .i64 n], .bool true]) (by simp [results, Tryz.results39, go_sem, *]) rfl ⟨rfl, ?_⟩
        (repeat (first | assumption | exact Below.refl _ _ | refine Below.setCell ?_ (by first | omega | (simp; done) | (simp; omega)) _ | refine Below.alloc ?_ (by first | omega | (simp; done) | (simp; omega)) _ | refine Below.drew ?_ | (refine Below.trans ?_ (Below.mono (by assumption) (by first | omega | (simp; done) | (simp; omega))))))
end Go.Proofs.YtnohkfbapibmdaaGreat
