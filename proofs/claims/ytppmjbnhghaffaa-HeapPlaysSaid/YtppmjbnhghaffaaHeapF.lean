/- The contracts of heap: Sorted; of the reference: Put, Sorted. -/
import Derived.Test.YtppmjbnhghaffaaHeapE
namespace Go.Proofs.Ytppmjbnhghaffaa
open Go.RowKit

theorem itV_one1 (x : It) : ∀ u ∈ itV x, u.oneCell' = true := by
  have := itV_one [x]; simpa using this
def lenOf : Value → Nat | .slice _ n _ => n | _ => 0
set_option maxRecDepth 100000 in
set_option maxHeartbeats 400000 in
theorem sorted_any (v : Value) (l : List It) (w : World) (h : ReadsL itV 5 w v l) (hl : l.length ≤ 100000) : Calls Try.prog 34 #[v] w (GivesL itV 38 5 w (Hp.sort itLt l)) := by
  have HM := Lib.hid (fun w' (b : Below w.heap.size w w') => make_any v l w' (h.below b) (by omega))
  obtain ⟨hm, a, c, rfl, h3⟩ := it_open h
  clear h h3
  have hmake := Hp.make_heap tot_it l
  obtain ⟨C, hC, hmk⟩ := run_make_cap itRow l.length (by omega) (by omega)
  have hown0 : (w.alloc (.cells C 38)).ownsRow w.heap.size 38 5 (.slice (some ⟨w.heap.size, 0, none⟩) 0 l.length) 0 [] := World.ownsRow_made w C l.length (Nat.le_refl _) (by unfold maxLen; omega) hC
  have H0 := Lib.hid hown0; have HC := Lib.hid hC; have HH := Lib.hid hmake; clear hown0 hC hmake
  have hlen : (Hp.make itLt l).length = l.length := HH.out.2.length_eq
  have HLn := Lib.hid hlen; clear hlen
  go_enter Try.func34, Try.ntmps34
  go_wp2_with fail
  refine (HM.out _ (by go_grown)).mono ?_
  rintro e w1 ⟨v1, rfl, hown, hb⟩
  simp only []
  go_at_K
  have HB : Hid (Below (w.heap.size + 1) (w.alloc (.cells C 38)) w1) := by have := hb; simp only [World.size_alloc] at this; exact this
  have HR := Lib.hid (owns_readsL hown)
  clear hown hb
  go_wp2_with fail
  go_loopw [3, 4] (fun s3 s4 wr => ∃ (don left : List It) (a4 : Option Addr) (c4 : Nat), s4 = .slice a4 left.length c4 ∧ left.length ≤ l.length ∧ Hid (don.length + left.length = l.length) ∧ Hid (Hp.sort itLt l = don ++ Hp.drain itLt left.length left) ∧ Hid (wr.ownsRow w.heap.size 38 5 s3 don.length (don.flatMap itV)) ∧ Hid (ReadsL itV 5 wr (.slice a4 left.length c4) left) ∧ Below w.heap.size w wr) (fun _ s4 _ => lenOf s4)
  case atStart =>
    obtain ⟨_, a4, c4, e4, _⟩ := it_open HR.out
    have hr := HR.out
    rw [e4] at hr
    refine ⟨[], Hp.make itLt l, a4, c4, e4, by rw [HLn.out]; exact Nat.le_refl _, by simp; exact HLn.out, ?_, ?_, hr, ?_⟩
    · rw [HLn.out]; exact (Hp.heapsort_eq tot_it l _ _ (by rw [HLn.out]; exact Nat.le_refl _) HH.out.1 HH.out.2).symm
    · have := owns_below H0.out (w' := w1) (by simp only [World.size_alloc]; exact HB.out); exact this
    · exact ((Below.refl _ _).alloc (Nat.le_refl _) _).trans (HB.out.mono (by omega))
  case round =>
    obtain ⟨don, left, a4, c4, rfl, hll, HN, HS, HO, HL, hbr⟩ := hrel
    cases left with
    | nil =>
      have hp := fun wx => pop_none (.slice a4 0 c4) wx
      go_wp2_with fail
      refine (hp _ HL.out).mono ?_
      rintro e w2 ⟨rfl, hb2⟩
      simp only []
      go_at_K
      go_wp2_with fail
      go_returns
      have hb3 := below2 hbr hb2
      have hz3 := hb3.size
      have e : Hp.sort itLt l = don := by rw [HS.out]; simp [Hp.drain]
      refine ⟨_, rfl, ?_, ?_⟩
      · rw [e]; exact (owns_below HO.out hb2).alloc _
      · go_grown
    | cons r t =>
      have ht : t.length ≤ 100000 := by simp at hll; omega
      have hp := Lib.hid (pop_some (.slice a4 (r :: t).length c4) r t wr HL.out ht)
      simp only [List.length_cons] at hp ⊢
      go_wp2_with fail
      refine hp.out.mono ?_
      rintro e w2 ⟨v2, rfl, hown2, hb2⟩
      simp only []
      go_at_K
      have hz := hbr.size
      have hz2 := hb2.size
      have hO2 := owns_below HO.out hb2
      obtain ⟨a5, c5, rfl⟩ := owns_slice hown2
      have HL2 := Lib.hid (rest_len r t)
      go_wp2_with (at_builtin; refine list_app_reads_g itRow rfl (.tmp 22) (.tmp 24) rfl w.heap.size u3 don.length (don.flatMap itV) rfl ((hO2.alloc _).alloc _) _ 1 (itV r) rfl (reads_one1 (us := itV r) rfl (Nat.succ_pos 4)) (itV_one1 r) (by have := HN.out; omega) (by have := HN.out; omega) (by simp; omega) ?_; intro v' w' hown' hgr)
      go_roundw
      case rel =>
        have hn := HN.out
        have hl2 := HL2.out
        have hne : (Value.slice a5 (Hp.rest itLt (r :: t)).length c5).ownBlock = none ∨ (Value.slice a5 (Hp.rest itLt (r :: t)).length c5).ownBlock ≠ u3.ownBlock := by
          cases hq : u3.ownBlock with
          | none => cases a5 <;> simp [Value.ownBlock]
          | some q =>
            have h1 := (HO.out.lt q hq).2
            cases a5 with
            | none => exact Or.inl rfl
            | some ad =>
              right
              have h2 := (hown2.lt ad.block rfl).1
              intro e; injection e with e; omega
        have hkeep := (((hown2.alloc _).alloc _).kept hgr hne)
        simp only [List.length_cons] at hll hn
        refine ⟨don ++ [r], Hp.rest itLt (r :: t), a5, c5, rfl, by omega, ?_, ?_, ?_, owns_readsL hkeep, ?_⟩
        · unfold Hid; simp only [List.length_append, List.length_cons, List.length_nil]; omega
        · unfold Hid; rw [HS.out, hl2]; simp [Hp.drain]
        · unfold Hid; rw [flat_snoc]; simpa using hown'
        · refine below_grown (v := u3) (base := w.heap.size) ((hO2.alloc _).alloc _) ?_ (Nat.le_refl _) ?_ hgr
          · have hb3 := below2 hbr hb2
            go_grown
          · first | (simp; done) | (simp; omega)
      case measure => have hl2 := HL2.out; simp [lenOf]; omega
end Go.Proofs.Ytppmjbnhghaffaa
