/- The contracts of the heap's reference: Sorted; of its law: to, of, same. -/
import Derived.Test.YtppmjbnhghaffaaHeapG
import Derived.Test.YtppmjbnhghaffaaEq
namespace Go.Proofs.Ytppmjbnhghaffaa
open Go.RowKit

/-- a row of its own that is not nil -/
def GivesSome {α : Type} (f : α → List Value) (T : TypeId) (n : Nat) (W : World) (l : List α) (en : Ending) (w' : World) : Prop := ∃ g c, en = .returned (.slice (some ⟨g, 0, none⟩) l.length c) ∧ l.length ≤ c ∧ w'.ownsRow W.heap.size T n (.slice (some ⟨g, 0, none⟩) l.length c) l.length (l.flatMap f) ∧ Below W.heap.size W w'
theorem sort_len (l : List It) : (Hp.sort itLt l).length = l.length := (Hp.sort_perm l).length_eq
theorem sort_take (l : List It) (k : Nat) (x : It) (h : l[k]? = some x) : Hp.sort itLt (l.take (k + 1)) = Hp.put itLt (Hp.sort itLt (l.take k)) x := by
  have : l.take (k + 1) = l.take k ++ [x] := by rw [List.take_add_one, h]; rfl
  rw [this, Hp.sort_snoc]
set_option maxRecDepth 100000 in
set_option maxHeartbeats 400000 in
theorem refSorted_some (v : Value) (l : List It) (w : World) (h : ReadsL itV 5 w v l) (hl : l.length ≤ 100000) : Calls Try.prog 35 #[v] w (GivesSome itV 39 5 w (Hp.sort itLt l)) := by
  obtain ⟨hm, a, c, rfl, h3⟩ := it_open h
  clear h
  go_enter Try.func35, Try.ntmps35
  go_wp2_with fail
  go_loopw [3, 4] (fun s3 s4 wr => ∃ k g d : Nat, s4 = .int .i64 k ∧ k ≤ l.length ∧ s3 = .slice (some ⟨g, 0, none⟩) k d ∧ k ≤ d ∧ Hid (wr.ownsRow w.heap.size 39 5 (.slice (some ⟨g, 0, none⟩) k d) k ((Hp.sort itLt (l.take k)).flatMap itV)) ∧ Below w.heap.size w wr) (fun _ s4 _ => l.length - (intOf s4).toNat)
  case atStart => exact ⟨0, w.heap.size, 0, rfl, by omega, rfl, by omega, World.ownsRow_made w #[] 0 (Nat.le_refl _) (Nat.zero_le _) rfl, (Below.refl _ _).alloc (Nat.le_refl _) _⟩
  case round =>
    obtain ⟨k, g, d, rfl, hk, rfl, hkd, HO, hb⟩ := hrel
    by_cases hlt : k < l.length
    · obtain ⟨b, o, rfl, h4, h5, h6⟩ := h3 (by omega)
      obtain ⟨x, hx⟩ : ∃ x, l[k]? = some x := ⟨_, List.getElem?_eq_getElem hlt⟩
      obtain ⟨x0, x1, x2, x3, x4⟩ := itAt_below (h6 k x hx) hb h5
      have hlen : (Hp.sort itLt (l.take k)).length = k := by rw [sort_len]; simp; omega
      have hp := refPut_any g 0 d (Hp.sort itLt (l.take k)) x wr
      rw [hlen] at hp
      have HP := Lib.hid (hp (by have := owns_readsL (l := Hp.sort itLt (l.take k)) (f := itV) (by rw [hlen]; exact HO.out); exact this) hkd (by omega))
      have HX := Lib.hid hx; have HLn := Lib.hid hlen
      clear hp hx hlen h6 h3
      have q1 : (0 : Int) ≤ (k : Int) := by omega
      have q2 : (k : Int) < (l.length : Int) := by omega
      go_wp2_with fail
      refine HP.out.mono ?_
      rintro e w2 ⟨v2, rfl, hown, hb2⟩
      have hl2 : (Hp.put itLt (Hp.sort itLt (l.take k)) x).length = k + 1 := by
        rw [(Hp.put_perm _ x).length_eq]; simp; exact HLn.out
      rw [hl2] at hown
      obtain ⟨g2, d2, rfl, hg1, hg2, hg3⟩ := owns_some hown (by omega)
      have HW := Lib.hid hown; clear hown hl2
      simp only []
      go_at_K
      go_wp2_with fail
      go_roundw
      case rel => exact ⟨k + 1, g2, d2, by go_num, by omega, rfl, hg3, by unfold Hid; rw [sort_take l k x HX.out]; exact owns_base HW.out hb.size, below2 hb hb2⟩
      case measure => simp [intOf]; omega
    · go_wp2_with fail
      go_ret
      have e : l.take k = l := List.take_of_length_le (by omega)
      have h0 := HO.out
      rw [e] at h0
      have e2 : (Hp.sort itLt l).length = k := by rw [sort_len]; omega
      refine ⟨g, d, by rw [e2]; rfl, by omega, ?_, hb⟩
      rw [e2]; exact h0
theorem refSorted_any (v : Value) (l : List It) (w : World) (h : ReadsL itV 5 w v l) (hl : l.length ≤ 100000) : Calls Try.prog 35 #[v] w (GivesL itV 39 5 w (Hp.sort itLt l)) :=
  (refSorted_some v l w h hl).mono fun _ _ ⟨_, _, h1, _, h2, h3⟩ => ⟨_, h1, h2, h3⟩
set_option maxRecDepth 100000 in
set_option maxHeartbeats 400000 in
theorem to24_any (v : Value) (l : List It) (w : World) (h : ReadsL itV 5 w v l) (hl : l.length ≤ 100000) : Calls Try.prog 28 #[v] w (GivesL itV 38 5 w l) := by
  obtain ⟨hm, a, c, rfl, h3⟩ := it_open h
  clear h
  go_enter Try.func28, Try.ntmps28
  go_wp2_with fail
  go_loopw [3, 4] (fun s3 s4 wr => ∃ k : Nat, s4 = .int .i64 k ∧ k ≤ l.length ∧ Hid (wr.ownsRow w.heap.size 38 5 s3 k ((l.take k).flatMap itV)) ∧ Below w.heap.size w wr) (fun _ s4 _ => l.length - (intOf s4).toNat)
  case atStart => exact ⟨0, rfl, by omega, World.ownsRow_nil _ _ _ _, Below.refl _ _⟩
  case round =>
    obtain ⟨k, rfl, hk, HO, hb⟩ := hrel
    by_cases hlt : k < l.length
    · obtain ⟨b, o, rfl, h4, h5, h6⟩ := h3 (by omega)
      obtain ⟨x, hx⟩ : ∃ x, l[k]? = some x := ⟨_, List.getElem?_eq_getElem hlt⟩
      obtain ⟨y0, y1, y2, y3, y4⟩ := h6 k x hx
      obtain ⟨x0, x1, x2, x3, x4⟩ := itAt_below (h6 k x hx) hb h5
      have hz := hb.size
      have HX := Lib.hid hx
      clear hx h6 h3
      have q1 : (0 : Int) ≤ (k : Int) := by omega
      have q2 : (k : Int) < (l.length : Int) := by omega
      go_wp2_with fail
      go_region_held3 (fun w' => w'.cell? ⟨b, o + k * 5, none⟩ = some (.int .i64 x.key) ∧ w'.cell? ⟨b, o + k * 5 + 1, none⟩ = some (.bool x.en.ad.v6) ∧ w'.cell? ⟨b, o + k * 5 + 2, none⟩ = some (.int .u64 x.en.ad.hi) ∧ w'.cell? ⟨b, o + k * 5 + 3, none⟩ = some (.int .u64 x.en.ad.lo) ∧ w'.cell? ⟨b, o + k * 5 + 4, none⟩ = some (.int .i64 x.en.port)) (first | go_keep | (simp (disch := omega) [*])) ((refine step_app (w := wr.drew) itRow (by rfl) (.tmp 11) (.tmp 23) (by rfl) w.heap.size u3 k ((l.take k).flatMap itV) (by rfl) HO.out [.int .i64 x.key, .bool x.en.ad.v6, .int .u64 x.en.ad.hi, .int .u64 x.en.ad.lo, .int .i64 x.en.port] (by rfl) rfl rfl (by omega) (by omega) hz w.heap.size w hb.drew (Nat.le_refl _) ?_; intro v' w' hown hb'; obtain ⟨cf, _⟩ := bcellB hb'))
      go_wp2_with fail
      go_roundw
      case rel =>
        have e : (l.take k).flatMap itV ++ itV x = (l.take (k + 1)).flatMap itV := by rw [List.take_add_one, HX.out]; simp
        exact ⟨k + 1, by go_num, by omega, by unfold Hid; rw [← e]; exact hown, hb'⟩
      case measure => simp [intOf]; omega
    · go_wp2_with fail
      go_ret
      have e : l.take k = l := List.take_of_length_le (by omega)
      have h0 := HO.out
      rw [e] at h0
      exact ⟨_, rfl, by rw [show l.length = k from by omega]; exact h0, hb⟩
set_option maxRecDepth 100000 in
set_option maxHeartbeats 400000 in
theorem of24_any (v : Value) (l : List It) (w : World) (h : ReadsL itV 5 w v l) (hl : l.length ≤ 100000) : Calls Try.prog 30 #[v] w (GivesL itV 39 5 w l) := by
  obtain ⟨hm, a, c, rfl, h3⟩ := it_open h
  clear h
  go_enter Try.func30, Try.ntmps30
  go_wp2_with fail
  go_loopw [3, 4] (fun s3 s4 wr => ∃ k : Nat, s4 = .int .i64 k ∧ k ≤ l.length ∧ Hid (wr.ownsRow w.heap.size 39 5 s3 k ((l.take k).flatMap itV)) ∧ Below w.heap.size w wr) (fun _ s4 _ => l.length - (intOf s4).toNat)
  case atStart => exact ⟨0, rfl, by omega, World.ownsRow_nil _ _ _ _, Below.refl _ _⟩
  case round =>
    obtain ⟨k, rfl, hk, HO, hb⟩ := hrel
    by_cases hlt : k < l.length
    · obtain ⟨b, o, rfl, h4, h5, h6⟩ := h3 (by omega)
      obtain ⟨x, hx⟩ : ∃ x, l[k]? = some x := ⟨_, List.getElem?_eq_getElem hlt⟩
      obtain ⟨y0, y1, y2, y3, y4⟩ := h6 k x hx
      obtain ⟨x0, x1, x2, x3, x4⟩ := itAt_below (h6 k x hx) hb h5
      have hz := hb.size
      have HX := Lib.hid hx
      clear hx h6 h3
      have q1 : (0 : Int) ≤ (k : Int) := by omega
      have q2 : (k : Int) < (l.length : Int) := by omega
      go_wp2_with fail
      go_region_held3 (fun w' => w'.cell? ⟨b, o + k * 5, none⟩ = some (.int .i64 x.key) ∧ w'.cell? ⟨b, o + k * 5 + 1, none⟩ = some (.bool x.en.ad.v6) ∧ w'.cell? ⟨b, o + k * 5 + 2, none⟩ = some (.int .u64 x.en.ad.hi) ∧ w'.cell? ⟨b, o + k * 5 + 3, none⟩ = some (.int .u64 x.en.ad.lo) ∧ w'.cell? ⟨b, o + k * 5 + 4, none⟩ = some (.int .i64 x.en.port)) (first | go_keep | (simp (disch := omega) [*])) ((refine step_app (w := wr.drew) refItRow (by rfl) (.tmp 11) (.tmp 23) (by rfl) w.heap.size u3 k ((l.take k).flatMap itV) (by rfl) HO.out [.int .i64 x.key, .bool x.en.ad.v6, .int .u64 x.en.ad.hi, .int .u64 x.en.ad.lo, .int .i64 x.en.port] (by rfl) rfl rfl (by omega) (by omega) hz w.heap.size w hb.drew (Nat.le_refl _) ?_; intro v' w' hown hb'; obtain ⟨cf, _⟩ := bcellB hb'))
      go_wp2_with fail
      go_roundw
      case rel =>
        have e : (l.take k).flatMap itV ++ itV x = (l.take (k + 1)).flatMap itV := by rw [List.take_add_one, HX.out]; simp
        exact ⟨k + 1, by go_num, by omega, by unfold Hid; rw [← e]; exact hown, hb'⟩
      case measure => simp [intOf]; omega
    · go_wp2_with fail
      go_ret
      have e : l.take k = l := List.take_of_length_le (by omega)
      have h0 := HO.out
      rw [e] at h0
      exact ⟨_, rfl, by rw [show l.length = k from by omega]; exact h0, hb⟩
theorem itIff (x y : It) : x = y ↔ x.key = y.key ∧ x.en = y.en := ⟨fun h => by subst h; exact ⟨rfl, rfl⟩, fun ⟨h1, h2⟩ => by cases x; cases y; simp_all⟩
instance : DecidableEq It := fun x y => decidable_of_iff (x.key = y.key ∧ x.en = y.en) (itIff x y).symm
theorem same_yes {a b : List It} (hl : a.length = b.length) (h : ∀ j, j < a.length → a[j]? = b[j]?) : a = b := by
  apply List.ext_getElem?
  intro j
  by_cases hj : j < a.length
  · exact h j hj
  · rw [List.getElem?_eq_none (by omega), List.getElem?_eq_none (by omega)]
set_option maxRecDepth 100000 in
set_option maxHeartbeats 400000 in
theorem same24_any (v1 v2 : Value) (l m : List It) (w : World) (h1 : ReadsL itV 5 w v1 l) (h2 : ReadsL itV 5 w v2 m) : Calls Try.prog 33 #[v1, v2] w fun e w' => e = .returned (.bool (decide (l = m))) ∧ Below w.heap.size w w' := by
  obtain ⟨hm1, a1, c1, rfl, k1⟩ := it_open h1
  obtain ⟨hm2, a2, c2, rfl, k2⟩ := it_open h2
  clear h1 h2
  by_cases hl : (l.length : Int) = (m.length : Int)
  · have hq : ((l.length : Int) != (m.length : Int)) = false := by simp [hl]
    have HL := Lib.hid (by omega : l.length = m.length); clear hl
    go_enter Try.func33, Try.ntmps33
    go_wp2_with fail
    go_loopw [5] (fun s5 wr => ∃ k : Nat, s5 = .int .i64 k ∧ k ≤ l.length ∧ Hid (∀ j, j < k → l[j]? = m[j]?) ∧ Below w.heap.size w wr) (fun s5 _ => l.length - (intOf s5).toNat)
    case atStart => exact ⟨0, rfl, by omega, fun j hj => by omega, Below.refl _ _⟩
    case round =>
      obtain ⟨k, rfl, hk, HK, hb⟩ := hrel
      by_cases hlt : k < l.length
      · have hlt2 : k < m.length := by have := HL.out; omega
        obtain ⟨b, o, rfl, h4, h5, h6⟩ := k1 (by omega)
        obtain ⟨b', o', rfl, h4', h5', h6'⟩ := k2 (by omega)
        obtain ⟨x, hx⟩ : ∃ x, l[k]? = some x := ⟨_, List.getElem?_eq_getElem hlt⟩
        obtain ⟨y, hy⟩ : ∃ y, m[k]? = some y := ⟨_, List.getElem?_eq_getElem hlt2⟩
        have hz := hb.size
        have X := fun q => itAt_ext (itAt_below (h6 k x hx) hb h5) q (Nat.lt_of_lt_of_le h5 hz)
        have Y := fun q => itAt_ext (itAt_below (h6' k y hy) hb h5') q (Nat.lt_of_lt_of_le h5' hz)
        have x0 := fun q => (X q).1; have x1 := fun q => (X q).2.1; have x2 := fun q => (X q).2.2.1; have x3 := fun q => (X q).2.2.2.1; have x4 := fun q => (X q).2.2.2.2
        have y0 := fun q => (Y q).1; have y1 := fun q => (Y q).2.1; have y2 := fun q => (Y q).2.2.1; have y3 := fun q => (Y q).2.2.2.1; have y4 := fun q => (Y q).2.2.2.2
        have q1 : (0 : Int) ≤ (k : Int) := by omega
        have q2 : (k : Int) < (l.length : Int) := by omega
        have q3 : (k : Int) < (m.length : Int) := by omega
        have hne := fun W => neqEn x.en y.en W
        have HX := Lib.hid hx; have HY := Lib.hid hy
        clear hx hy h6 h6' k1 k2 X Y
        cases hkey : (x.key != y.key)
        all_goals
          have HKey := Lib.hid hkey
          go_wp2_with fail
          refine wp_region_ext (by kernel_rfl) (by kernel_rfl) ?_
          repeat (go_big_quiet_step (fail))
          refine wpQuiet_nil ?_
          intro _ hw'
          obtain ⟨q, hw''⟩ := hw'
          subst hw''
          clear x0 x1 x2 x3 x4 y0 y1 y2 y3 y4
          have hb2 := below2 hb (ext_below wr q)
        · cases hen : decide (x.en = y.en)
          · have HE := Lib.hid hen
            go_wp2_with fail
            go_ret
            refine ⟨ret_of ?_, hb2⟩
            have hne : ¬ l = m := fun e => by
              have h := HX.out; rw [e, HY.out] at h; injection h with h; subst h
              have := HE.out; simp at this
            simp [hne]
          · have HE := Lib.hid hen
            go_wp2_with fail
            go_roundw
            case rel => exact ⟨k + 1, by go_num, by omega, fun j hj => by
              by_cases e : j = k
              · subst e; rw [HX.out, HY.out]; congr 1
                rw [itIff]; exact ⟨bne_f HKey.out, of_decide_eq_true HE.out⟩
              · exact HK.out j (by omega), hb2⟩
            case measure => simp [intOf]; omega
        · go_wp2_with fail
          go_ret
          refine ⟨ret_of ?_, hb2⟩
          have hne : ¬ l = m := fun e => by
            have h := HX.out; rw [e, HY.out] at h; injection h with h; subst h
            have := HKey.out; simp at this
          simp [hne]
      · go_wp2_with fail
        go_ret
        refine ⟨ret_of ?_, hb⟩
        have e : l = m := same_yes HL.out (fun j hj => HK.out j (by omega))
        simp [e]
  · have hq : ((l.length : Int) != (m.length : Int)) = true := by simp [hl]
    have HL := Lib.hid hl; clear hl
    go_enter Try.func33, Try.ntmps33
    go_wp2_with fail
    go_ret
    refine ⟨ret_of ?_, Below.refl _ _⟩
    have hne : ¬ l = m := fun e => HL.out (by rw [e])
    simp [hne]
end Go.Proofs.Ytppmjbnhghaffaa
