/- Are ends unlike, and the first statements of sieges. No condition. -/
import Derived.Test.YtppmjbnhghaffaaQ26129csnrupv
namespace Go.Proofs.Ytppmjbnhghaffaa
open Go.RowKit

set_option maxRecDepth 100000 in
set_option maxHeartbeats 16000000 in
theorem unlike22_any (v : Value) (l : List Pe) (w : World) (h : ReadsL peV 10 w v l) (hn : l.length ≤ 1000000) :
    Calls Try.prog 82 #[v] w fun e w' => ∃ bb, e = .returned (.bool bb) ∧ (bb = true ↔ UnlikeC l) ∧ Below w.heap.size w w' := by
  obtain ⟨hm, p, c, rfl, h3⟩ := pes_open h
  clear h
  rcases Nat.eq_zero_or_pos l.length with hz | hz
  · obtain rfl : l = [] := List.length_eq_zero_iff.1 hz
    simp only [List.length_nil]
    go_enter Try.func82, Try.ntmps82
    go_wp2_with fail
    go_loopw [3, 4] (fun i' _ wr => i' = .int .i64 0 ∧ Hid (Below w.heap.size w wr)) (fun _ _ _ => 0)
    case atStart => exact ⟨rfl, Below.refl _ _⟩
    case round =>
      obtain ⟨rfl, HB⟩ := hrel
      go_wp2_with fail
      go_ret
      exact ⟨true, rfl, ⟨fun _ => List.Pairwise.nil, fun _ => rfl⟩, HB.out⟩
  obtain ⟨b, o, rfl, h4, h5, h6⟩ := h3 hz
  clear h3
  go_enter Try.func82, Try.ntmps82
  go_wp2_with fail
  go_loopw [3, 4] (fun i' _ wr => ∃ i : Nat, i ≤ l.length ∧ i' = .int .i64 i ∧ Hid (∀ x y, x < y → y < i → (peGet l x).en ≠ (peGet l y).en) ∧ Hid (Below w.heap.size w wr)) (fun i' _ _ => l.length - (intOf i').toNat)
  case atStart => exact ⟨0, by omega, rfl, fun x y h1 h2 => by omega, Below.refl _ _⟩
  case round =>
    obtain ⟨i, hi, rfl, HU, HB⟩ := hrel
    obtain ⟨wo, rfl⟩ : ∃ wo : World, wo = wr := ⟨_, rfl⟩
    by_cases hlt : i < l.length
    · obtain ⟨pi, hpi⟩ : ∃ p, l[i]? = some p := ⟨_, List.getElem?_eq_getElem hlt⟩
      have q1 : (0 : Int) ≤ (i : Int) := by omega
      have q2 : (i : Int) < (l.length : Int) := by omega
      go_wp2_with fail
      go_loopw [4] (fun k' wr => ∃ k : Nat, k ≤ i ∧ k' = .int .i64 k ∧ Hid (∀ x, x < k → (peGet l x).en ≠ pi.en) ∧ Hid (Below w.heap.size w wr)) (fun k' _ => i - (intOf k').toNat)
      case atStart => exact ⟨0, by omega, rfl, fun x h1 => by omega, HB.out⟩
      case round =>
        obtain ⟨k, hk, rfl, HV, HB2⟩ := hrel
        have hbw := HB2.out
        by_cases hki : k < i
        · obtain ⟨pk, hpk⟩ : ∃ p, l[k]? = some p := ⟨_, List.getElem?_eq_getElem (show k < l.length by omega)⟩
          have K := ((h6 i pi hpi).below hbw h5).ext (Nat.lt_of_lt_of_le h5 hbw.size)
          have K2 := ((h6 k pk hpk).below hbw h5).ext (Nat.lt_of_lt_of_le h5 hbw.size)
          have x0 := fun y => (K y).1; have x1 := fun y => (K y).2.1; have x2 := fun y => (K y).2.2.1; have x3 := fun y => (K y).2.2.2.1
          have y0 := fun y => (K2 y).1; have y1 := fun y => (K2 y).2.1; have y2 := fun y => (K2 y).2.2.1; have y3 := fun y => (K2 y).2.2.2.1
          have q3 : (0 : Int) ≤ (k : Int) := by omega
          have q4 : (k : Int) < (l.length : Int) := by omega
          have q5 : (k : Int) < (i : Int) := by omega
          have q := fun W => eqlEn pi.en pk.en W
          have HG := Lib.hid (peGet_at hpk)
          have HPI := Lib.hid hpi; have HPK := Lib.hid hpk
          clear K K2 hpi hpk
          by_cases he : pi.en = pk.en
          · have hd : decide (pi.en = pk.en) = true := decide_eq_true he
            rw [hd] at q
            have HE1 := Lib.hid he
            clear hd he
            go_wp2_with fail
            refine wp_region_ext (by kernel_rfl) (by kernel_rfl) ?_
            repeat (go_big_quiet_step (fail))
            refine wpQuiet_nil ?_
            intro _ hw'
            obtain ⟨gx, hw''⟩ := hw'
            subst hw''
            clear x0 x1 x2 x3 y0 y1 y2 y3 q
            have b8 := below2 hbw (ext_below wr gx)
            go_wp2_with fail
            go_ret
            refine ⟨false, rfl, ⟨(fun e => nomatch e), fun hU => absurd HE1.out ?_⟩, b8⟩
            have := List.pairwise_iff_getElem.1 hU k i (by omega) hlt hki
            intro e
            rw [(List.getElem?_eq_some_iff.1 HPK.out).2, (List.getElem?_eq_some_iff.1 HPI.out).2] at this
            exact this e.symm
          · have hd : decide (pi.en = pk.en) = false := decide_eq_false he
            rw [hd] at q
            have HE := Lib.hid he
            clear hd he
            go_wp2_with fail
            refine wp_region_ext (by kernel_rfl) (by kernel_rfl) ?_
            repeat (go_big_quiet_step (fail))
            refine wpQuiet_nil ?_
            intro _ hw'
            obtain ⟨gx, hw''⟩ := hw'
            subst hw''
            clear x0 x1 x2 x3 y0 y1 y2 y3 q
            go_wp2_with fail
            go_roundw
            case rel => exact ⟨k + 1, by omega, by go_num, fun x hx => by
              rcases Nat.lt_or_ge x k with h1 | h1
              · exact HV.out x h1
              · obtain rfl : x = k := by omega
                rw [HG.out]; exact fun e => HE.out e.symm, HB2.out.trans ((ext_below wr gx).mono HB2.out.size)⟩
            case measure => simp [intOf]; omega
        · obtain rfl : k = i := by omega
          go_wp2_with fail
          go_roundw
          case rel => exact ⟨k + 1, by omega, by go_num, fun x y h1 h2 => by
            rcases Nat.lt_or_ge y k with h7 | h7
            · exact HU.out x y h1 h7
            · obtain rfl : y = k := by omega
              rw [peGet_at hpi]; exact HV.out x h1, HB2.out⟩
          case measure => simp [intOf]; omega
    · obtain rfl : i = l.length := by omega
      have HUN : Hid (UnlikeC l) := List.pairwise_iff_getElem.2 fun x y hx hy hxy => by
        have := HU.out x y hxy hy
        rwa [peGet_at (List.getElem?_eq_getElem hx), peGet_at (List.getElem?_eq_getElem hy)] at this
      go_wp2_with fail
      go_ret
      exact ⟨true, rfl, ⟨fun _ => HUN.out, fun _ => rfl⟩, HB.out⟩
/-- peers that are read stay where a block of four cells turns -/
theorem readsP_set {w : World} {v : Value} {l : List Pe} {B : Nat} {arr : List Value} {T : TypeId} (h : ReadsL peV 10 w v l) (hB : BlockIs w B arr T) (ha : arr.length < 10) (i : Nat) (x : Value) : ReadsL peV 10 (w.setCell ⟨B, i, none⟩ x) v l := by
  obtain ⟨h1, h2, h3⟩ := h
  refine ⟨h1, h2, ?_⟩
  rcases h3 with h3 | ⟨hp, b, o, c, hv, hc, hlt, hx⟩
  · exact Or.inl h3
  · refine Or.inr ⟨hp, b, o, c, hv, hc, by simpa using hlt, fun j y hj => ?_⟩
    have hne : B ≠ b := by
      intro e
      subst e
      have h9 : (l.flatMap peV)[9]? = some ((l.flatMap peV)[9]'(by rw [h1]; omega)) := List.getElem?_eq_getElem _
      have := hx 9 _ h9
      unfold BlockIs at hB
      simp only [World.cell?, hB] at this
      rw [List.getElem?_toArray, List.getElem?_eq_none (by omega)] at this
      cases this
    rw [World.cell?_setCell_far w ⟨B, i, none⟩ ⟨b, o + j, none⟩ x (by exact hne)]
    exact hx j y hj
theorem readsP_end {w : World} {v : Value} {l : List Pe} {B : Nat} {a b c d : Value} {T : TypeId} (h : ReadsL peV 10 w v l) (hB : BlockIs w B [a, b, c, d] T) (x0 x1 x2 x3 : Value) : ReadsL peV 10 ((((w.setCell ⟨B, 0, none⟩ x0).setCell ⟨B, 1, none⟩ x1).setCell ⟨B, 2, none⟩ x2).setCell ⟨B, 3, none⟩ x3) v l :=
  readsP_set (readsP_set (readsP_set (readsP_set h hB (by simp) 0 _) (hB.set 0 _) (by simp) 1 _) ((hB.set 0 _).set 1 _) (by simp) 2 _) (((hB.set 0 _).set 1 _).set 2 _) (by simp) 3 _
/-! ### awake -/
theorem at22_any (port ping : Int) (w : World) : Calls Try.prog 117 #[.int .i64 port, .int .i64 ping] w fun e w' => e = .returned (.agg #[.bool false, .int .u64 0, .int .u64 1, .int .i64 port, .bool true, .int .i64 port, .int .i64 0, .int .i64 0, .int .i64 ping, .int .i64 0]) ∧ Below w.heap.size w w' := by
  go_enter Try.func117, Try.ntmps117
  go_wp2_with fail
  refine bodyPost_ret (v := .agg #[.bool false, .int .u64 0, .int .u64 1, .int .i64 port, .bool true, .int .i64 port, .int .i64 0, .int .i64 0, .int .i64 ping, .int .i64 0]) (by simp [results, Try.results117, go_sem, *]) rfl ⟨rfl, ?_⟩
  (repeat (first | with_reducible assumption | with_reducible exact Below.refl _ _ | with_reducible refine Below.setCell ?_ (by first | omega | (simp; done) | (simp; omega)) _ | with_reducible refine Below.alloc ?_ (by first | omega | (simp; done) | (simp; omega)) _ | with_reducible refine Below.drew ?_ | (with_reducible refine Below.trans ?_ (Below.mono (by with_reducible assumption) (by first | omega | (simp; done) | (simp; omega)))) | (refine Below.trans ?_ (Below.mono (by assumption) (by first | omega | (simp; done) | (simp; omega))))))
def p22 (port ping : Int) : Pe := ⟨⟨⟨false, 0, 1⟩, port⟩, true, port, 0, 0, ping, 0⟩
def t22 : St := ⟨1, ⟨0, 1, 0, 0⟩, 7⟩
theorem t22_fits : t22.fits := by unfold St.fits Qu.fits t22; decide
theorem p22_fits {port ping : Int} (h : 0 ≤ port ∧ port ≤ 100) (h2 : 0 ≤ ping ∧ ping ≤ 100) : (p22 port ping).fits := by
  unfold Pe.fits Ad.fits p22
  simp only [and_true]
  refine ⟨⟨?_, ?_⟩, ?_, ?_, ?_, ?_, ?_⟩ <;> first | omega | decide | (simp; omega)
theorem a22_1 : arL [] (p22 1 3) t22 = [p22 1 3] ∧ arC [] (p22 1 3) t22 = 0 ∧ arE [] (p22 1 3) t22 = zEn := by decide +kernel
theorem a22_2 : arC [p22 1 3] (p22 2 5) t22 = 5 ∧ arE [p22 1 3] (p22 2 5) t22 = zEn := by decide +kernel
theorem a22_3 : siL [p22 1 3] [p22 3 9, p22 4 8] t22 = [p22 1 3] := by decide +kernel
theorem a22_4 : sfB [p22 1 3] [p22 3 9] 0 t22 = true := by decide +kernel
end Go.Proofs.Ytppmjbnhghaffaa
