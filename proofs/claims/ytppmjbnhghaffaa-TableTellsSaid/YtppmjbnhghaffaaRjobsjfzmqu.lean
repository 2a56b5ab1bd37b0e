/- Texts put together: TabG. No condition. -/
import Derived.Test.YtppmjbnhghaffaaRsxuqrryqqa
import Derived.Deep.RegionHeld3
import Derived.Handy
namespace Go.Proofs.Ytppmjbnhghaffaa
open Go.RowKit Go.Lib

set_option maxRecDepth 100000 in
set_option maxHeartbeats 8000000 in
theorem refTdrop_any (v : Value) (l : List Pe) (en : En) (w : World) (h : ReadsL peV 10 w v l) (hl : l.length ≤ 1000000) :
    Calls Try.prog 68 #[v, .agg #[.bool en.ad.v6, .int .u64 en.ad.hi, .int .u64 en.ad.lo, .int .i64 en.port]] w fun e w' => ∃ r, e = .returned (.tuple #[r, .int .i64 (dropT l en).2]) ∧ ReadsL peV 10 w' r (dropT l en).1 ∧ Below w.heap.size w w' := by
  obtain ⟨hm, a0, ca, rfl, h3⟩ := pes_open h
  have HR := Lib.hid h
  have HFd := Lib.hid (fun (W : World) (hb : Below w.heap.size w W) => refIndex_any _ l en W (ReadsL.below h hb))
  have B0 : Below w.heap.size w (w.alloc (.cells #[.bool en.ad.v6, .int .u64 en.ad.hi, .int .u64 en.ad.lo, .int .i64 en.port] 34)) := by (repeat (first | with_reducible assumption | with_reducible exact Below.refl _ _ | with_reducible refine Below.setCell ?_ (by first | omega | (simp; done) | (simp; omega)) _ | with_reducible refine Below.alloc ?_ (by first | omega | (simp; done) | (simp; omega)) _ | with_reducible refine Below.drew ?_ | (with_reducible refine Below.trans ?_ (Below.mono (by with_reducible assumption) (by first | omega | (simp; done) | (simp; omega)))) | (refine Below.trans ?_ (Below.mono (by assumption) (by first | omega | (simp; done) | (simp; omega))))))
  have HB0 := Lib.hid B0
  clear B0 h
  rcases fnI_cases l (fun p => decide (p.en = en)) with hc | ⟨i, hc, hi⟩
  · have hc' : fdI l en = -1 := hc
    have hd : dropT l en = ([], 6) := by unfold dropT; rw [hc', if_pos (by omega)]
    rw [hd]
    rw [hc'] at HFd
    clear hc hc' hd
    go_enter Try.func68, Try.ntmps68
    go_wp2_with (go_at_call 60; (with_reducible refine (HFd.out _ HB0.out).mono ?_); rintro e w1 ⟨rfl, b1⟩)
    have b2 := below2 HB0.out b1
    go_ret2
    exact ⟨_, rfl, owns_readsL (l := []) (World.ownsRow_nil w1 w.heap.size 66 10), b2⟩
  have hc' : fdI l en = i := hc
  have hd : dropT l en = (l.take i ++ l.drop (i + 1), 0) := by unfold dropT; rw [hc', if_neg (by omega), Int.toNat_natCast]
  rw [hd]
  show Calls _ _ _ _ (fun e w' => ∃ r, e = .returned (.tuple #[r, .int .i64 0]) ∧ ReadsL peV 10 w' r (l.take i ++ l.drop (i + 1)) ∧ Below w.heap.size w w')
  rw [hc'] at HFd
  obtain ⟨b, o, rfl, h4, h5, h6⟩ := h3 (by omega)
  clear h6
  have hg0 : ¬ ((i : Int) < 0) := by omega
  clear hc hc' hd
  have key : ∀ (W6 W8 : World) (v8 : Value), W8.ownsRow W6.heap.size 66 10 v8 (i + (l.length - (i + 1))) ((l.take i).flatMap peV ++ (l.drop (i + 1)).flatMap peV) → ReadsL peV 10 W8 v8 (l.take i ++ l.drop (i + 1)) := fun W6 W8 v8 ho => by
    unfold ReadsL
    rw [show (l.take i ++ l.drop (i + 1)).length = i + (l.length - (i + 1)) by simp; omega, List.flatMap_append]
    exact owns_reads ho
  have HKK := Lib.hid key
  clear key
  obtain ⟨XS, hXS⟩ : ∃ XS, XS = l.take i ++ l.drop (i + 1) := ⟨_, rfl⟩
  rw [← hXS] at HKK ⊢
  clear hXS
  go_enter Try.func68, Try.ntmps68
  go_upto_region 4 with (go_at_call 60; (with_reducible refine (HFd.out _ HB0.out).mono ?_); rintro e W6 ⟨rfl, b6⟩)
  have HB6 := Lib.hid (below2 HB0.out b6)
  have HK := Lib.hid (HKK.out W6)
  clear HKK b6
  have hRr : ReadsL peV 10 W6 (.slice (some ⟨b, o, none⟩) l.length ca) l := Reads.below HR.out HB6.out
  have hd1 : (l.drop (i + 1)).length = l.length - (i + 1) := List.length_drop
  have hd2 : (l.take i).length = i := by rw [List.length_take]; omega
  have r1 := reads_dropP hRr (show i + 1 ≤ l.length by omega)
  have r2 := reads_takeP hRr (show i ≤ l.length by omega)
  unfold ReadsL at r1 r2
  rw [hd1] at r1
  rw [hd2] at r2
  have RT := Lib.hid r2
  have HRD := Lib.hid r1
  have HRE : Hid (ca = i + 1 → ∀ d, Reads W6 (.slice (some ⟨b, o, none⟩) (l.length - (i + 1)) d) (l.length - (i + 1)) 10 ((l.drop (i + 1)).flatMap peV)) := fun e d => by
    rw [List.drop_eq_nil_of_le (by omega), show l.length - (i + 1) = 0 by omega]
    exact ⟨rfl, by omega, Or.inl ⟨rfl, _, _, rfl⟩⟩
  clear r1 r2 hd1 hd2 hRr
  have q1 : (0 : Int) ≤ (i : Int) := by omega
  have q2 : (i : Int) ≤ (l.length : Int) := by omega
  have q3 : (i : Int) ≤ (ca : Int) := by omega
  have q4 : (i : Int) + 1 ≤ (l.length : Int) := by omega
  have q5 : (i : Int) + 1 ≤ (ca : Int) := by omega
  have q6 : (0 : Int) ≤ (i : Int) + 1 := by omega
  have q7 : IntKind.i64.wrap ((i : Int) + 1) = (i : Int) + 1 := IntWalk.i64_in _ (by omega)
  have zt0 : ((i : Int) + 1).toNat = i + 1 := by omega
  have zt1 : ((l.length : Int) - ((i : Int) + 1)).toNat = l.length - (i + 1) := by omega
  have zt2 : ((ca : Int) - ((i : Int) + 1)).toNat = ca - (i + 1) := by omega
  by_cases hck : ca = i + 1
  case pos =>
    have hz0 : l.length - (i + 1) = 0 := by omega
    have RD := HRE.out hck
    rw [hz0] at HK RD
    have RD := Lib.hid RD
    clear hz0
    have q8 : (l.length : Int) ≤ (i : Int) + 1 := by omega
    have q9 : (i : Int) ≤ (i : Int) + 1 := by omega
    have q10 : l.length ≤ i + 1 := Nat.le_trans h4 (Nat.le_of_eq hck)
    clear HRE HRD q3 q5 zt2
    subst hck
    go_region_held3 (fun _ => True) (first | trivial) (first | (refine step_app_reads_g peRow (by rfl) (.tmp 12) (.tmp 15) (by rfl) W6.heap.size (.slice (some ⟨W6.heap.size, 0, none⟩) 0 0) (0) ([]) (by rfl) (by (repeat (first | ((with_reducible refine own_made ?_ ?_); (first | rfl | simp); (first | exact Nat.le_refl _ | simp)) | (with_reducible refine World.ownsRow.alloc ?_ _) | (with_reducible refine World.ownsRow.drew ?_))); done) _ (i) ((l.take i).flatMap peV) (by rfl) (Reads.below RT.out (by (repeat (first | with_reducible assumption | with_reducible exact Below.refl _ _ | with_reducible refine Below.setCell ?_ (by first | omega | (simp; done) | (simp; omega)) _ | with_reducible refine Below.alloc ?_ (by first | omega | (simp; done) | (simp; omega)) _ | with_reducible refine Below.drew ?_ | (with_reducible refine Below.trans ?_ (Below.mono (by with_reducible assumption) (by first | omega | (simp; done) | (simp; omega)))) | (refine Below.trans ?_ (Below.mono (by assumption) (by first | omega | (simp; done) | (simp; omega)))))))) (peV_ones _) (by omega) (by omega) (by first | omega | (simp; done) | (simp; omega) | (simp at *; omega)) ?_; intro v1 w1 o1 gr1; have bb1 : Below W6.heap.size W6 w1 := below_grown (base := W6.heap.size) (e := 66) (size := 10) (v := (.slice (some ⟨W6.heap.size, 0, none⟩) 0 0)) (n := 0) (xs := []) (by (repeat (first | ((with_reducible refine own_made ?_ ?_); (first | rfl | simp); (first | exact Nat.le_refl _ | simp)) | (with_reducible refine World.ownsRow.alloc ?_ _) | (with_reducible refine World.ownsRow.drew ?_))); done) (by (repeat (first | with_reducible assumption | with_reducible exact Below.refl _ _ | with_reducible refine Below.setCell ?_ (by first | omega | (simp; done) | (simp; omega)) _ | with_reducible refine Below.alloc ?_ (by first | omega | (simp; done) | (simp; omega)) _ | with_reducible refine Below.drew ?_ | (with_reducible refine Below.trans ?_ (Below.mono (by with_reducible assumption) (by first | omega | (simp; done) | (simp; omega)))) | (refine Below.trans ?_ (Below.mono (by assumption) (by first | omega | (simp; done) | (simp; omega))))))) (Nat.le_refl _) (by first | omega | (simp; done) | (simp; omega) | (simp at *; omega)) gr1; simp only [Nat.zero_add, List.nil_append] at o1) | (refine step_app_reads_g peRow (by rfl) (.tmp 12) (.tmp 15) (by rfl) W6.heap.size (.slice (some ⟨W6.heap.size + 1, 0, none⟩) 0 0) (0) ([]) (by rfl) (by (repeat (first | ((with_reducible refine own_made ?_ ?_); (first | rfl | simp); (first | exact Nat.le_refl _ | simp)) | (with_reducible refine World.ownsRow.alloc ?_ _) | (with_reducible refine World.ownsRow.drew ?_))); done) _ (i) ((l.take i).flatMap peV) (by rfl) (Reads.below RT.out (by (repeat (first | with_reducible assumption | with_reducible exact Below.refl _ _ | with_reducible refine Below.setCell ?_ (by first | omega | (simp; done) | (simp; omega)) _ | with_reducible refine Below.alloc ?_ (by first | omega | (simp; done) | (simp; omega)) _ | with_reducible refine Below.drew ?_ | (with_reducible refine Below.trans ?_ (Below.mono (by with_reducible assumption) (by first | omega | (simp; done) | (simp; omega)))) | (refine Below.trans ?_ (Below.mono (by assumption) (by first | omega | (simp; done) | (simp; omega)))))))) (peV_ones _) (by omega) (by omega) (by first | omega | (simp; done) | (simp; omega) | (simp at *; omega)) ?_; intro v1 w1 o1 gr1; have bb1 : Below W6.heap.size W6 w1 := below_grown (base := W6.heap.size) (e := 66) (size := 10) (v := (.slice (some ⟨W6.heap.size + 1, 0, none⟩) 0 0)) (n := 0) (xs := []) (by (repeat (first | ((with_reducible refine own_made ?_ ?_); (first | rfl | simp); (first | exact Nat.le_refl _ | simp)) | (with_reducible refine World.ownsRow.alloc ?_ _) | (with_reducible refine World.ownsRow.drew ?_))); done) (by (repeat (first | with_reducible assumption | with_reducible exact Below.refl _ _ | with_reducible refine Below.setCell ?_ (by first | omega | (simp; done) | (simp; omega)) _ | with_reducible refine Below.alloc ?_ (by first | omega | (simp; done) | (simp; omega)) _ | with_reducible refine Below.drew ?_ | (with_reducible refine Below.trans ?_ (Below.mono (by with_reducible assumption) (by first | omega | (simp; done) | (simp; omega)))) | (refine Below.trans ?_ (Below.mono (by assumption) (by first | omega | (simp; done) | (simp; omega))))))) (Nat.le_refl _) (by first | omega | (simp; done) | (simp; omega) | (simp at *; omega)) gr1; simp only [Nat.zero_add, List.nil_append] at o1) | (refine step_app_reads_g peRow (by rfl) (.tmp 16) (.tmp 20) (by rfl) W6.heap.size v1 (i) ((l.take i).flatMap peV) (by rfl) (by (repeat (first | (with_reducible exact o1) | (with_reducible refine World.ownsRow.alloc ?_ _) | (with_reducible refine World.ownsRow.drew ?_))); done) _ 0 ((l.drop (i + 1)).flatMap peV) (by rfl) (Reads.below (RD.out _) bb1) (peV_ones _) (by omega) (by omega) (by first | exact bb1.size | (refine Nat.le_trans bb1.size ?_; simp)) ?_; intro v2 w2 o2 gr2; have bb2 : Below W6.heap.size W6 w2 := below_grown (base := W6.heap.size) (e := 66) (size := 10) (v := v1) (n := i) (xs := (l.take i).flatMap peV) (by (repeat (first | (with_reducible exact o1) | (with_reducible refine World.ownsRow.alloc ?_ _) | (with_reducible refine World.ownsRow.drew ?_))); done) (by first | exact bb1 | exact bb1.drew | exact Below.alloc bb1 bb1.size _ | exact (Below.alloc bb1 bb1.size _).drew) (Nat.le_refl _) (by first | exact bb1.size | (refine Nat.le_trans bb1.size ?_; simp)) gr2) | fail)
    all_goals
      go_wp2_with fail
      go_ret2
      exact ⟨_, rfl, HK.out _ _ o2, below2 HB6.out bb2⟩
  case neg =>
    have hckz : ¬ (ca : Int) = (i : Int) + 1 := by omega
    have RD := HRD
    clear HRE HRD
    go_region_held3 (fun _ => True) (first | trivial) (first | (refine step_app_reads_g peRow (by rfl) (.tmp 12) (.tmp 15) (by rfl) W6.heap.size (.slice (some ⟨W6.heap.size, 0, none⟩) 0 0) (0) ([]) (by rfl) (by (repeat (first | ((with_reducible refine own_made ?_ ?_); (first | rfl | simp); (first | exact Nat.le_refl _ | simp)) | (with_reducible refine World.ownsRow.alloc ?_ _) | (with_reducible refine World.ownsRow.drew ?_))); done) _ (i) ((l.take i).flatMap peV) (by rfl) (Reads.below RT.out (by (repeat (first | with_reducible assumption | with_reducible exact Below.refl _ _ | with_reducible refine Below.setCell ?_ (by first | omega | (simp; done) | (simp; omega)) _ | with_reducible refine Below.alloc ?_ (by first | omega | (simp; done) | (simp; omega)) _ | with_reducible refine Below.drew ?_ | (with_reducible refine Below.trans ?_ (Below.mono (by with_reducible assumption) (by first | omega | (simp; done) | (simp; omega)))) | (refine Below.trans ?_ (Below.mono (by assumption) (by first | omega | (simp; done) | (simp; omega)))))))) (peV_ones _) (by omega) (by omega) (by first | omega | (simp; done) | (simp; omega) | (simp at *; omega)) ?_; intro v1 w1 o1 gr1; have bb1 : Below W6.heap.size W6 w1 := below_grown (base := W6.heap.size) (e := 66) (size := 10) (v := (.slice (some ⟨W6.heap.size, 0, none⟩) 0 0)) (n := 0) (xs := []) (by (repeat (first | ((with_reducible refine own_made ?_ ?_); (first | rfl | simp); (first | exact Nat.le_refl _ | simp)) | (with_reducible refine World.ownsRow.alloc ?_ _) | (with_reducible refine World.ownsRow.drew ?_))); done) (by (repeat (first | with_reducible assumption | with_reducible exact Below.refl _ _ | with_reducible refine Below.setCell ?_ (by first | omega | (simp; done) | (simp; omega)) _ | with_reducible refine Below.alloc ?_ (by first | omega | (simp; done) | (simp; omega)) _ | with_reducible refine Below.drew ?_ | (with_reducible refine Below.trans ?_ (Below.mono (by with_reducible assumption) (by first | omega | (simp; done) | (simp; omega)))) | (refine Below.trans ?_ (Below.mono (by assumption) (by first | omega | (simp; done) | (simp; omega))))))) (Nat.le_refl _) (by first | omega | (simp; done) | (simp; omega) | (simp at *; omega)) gr1; simp only [Nat.zero_add, List.nil_append] at o1) | (refine step_app_reads_g peRow (by rfl) (.tmp 12) (.tmp 15) (by rfl) W6.heap.size (.slice (some ⟨W6.heap.size + 1, 0, none⟩) 0 0) (0) ([]) (by rfl) (by (repeat (first | ((with_reducible refine own_made ?_ ?_); (first | rfl | simp); (first | exact Nat.le_refl _ | simp)) | (with_reducible refine World.ownsRow.alloc ?_ _) | (with_reducible refine World.ownsRow.drew ?_))); done) _ (i) ((l.take i).flatMap peV) (by rfl) (Reads.below RT.out (by (repeat (first | with_reducible assumption | with_reducible exact Below.refl _ _ | with_reducible refine Below.setCell ?_ (by first | omega | (simp; done) | (simp; omega)) _ | with_reducible refine Below.alloc ?_ (by first | omega | (simp; done) | (simp; omega)) _ | with_reducible refine Below.drew ?_ | (with_reducible refine Below.trans ?_ (Below.mono (by with_reducible assumption) (by first | omega | (simp; done) | (simp; omega)))) | (refine Below.trans ?_ (Below.mono (by assumption) (by first | omega | (simp; done) | (simp; omega)))))))) (peV_ones _) (by omega) (by omega) (by first | omega | (simp; done) | (simp; omega) | (simp at *; omega)) ?_; intro v1 w1 o1 gr1; have bb1 : Below W6.heap.size W6 w1 := below_grown (base := W6.heap.size) (e := 66) (size := 10) (v := (.slice (some ⟨W6.heap.size + 1, 0, none⟩) 0 0)) (n := 0) (xs := []) (by (repeat (first | ((with_reducible refine own_made ?_ ?_); (first | rfl | simp); (first | exact Nat.le_refl _ | simp)) | (with_reducible refine World.ownsRow.alloc ?_ _) | (with_reducible refine World.ownsRow.drew ?_))); done) (by (repeat (first | with_reducible assumption | with_reducible exact Below.refl _ _ | with_reducible refine Below.setCell ?_ (by first | omega | (simp; done) | (simp; omega)) _ | with_reducible refine Below.alloc ?_ (by first | omega | (simp; done) | (simp; omega)) _ | with_reducible refine Below.drew ?_ | (with_reducible refine Below.trans ?_ (Below.mono (by with_reducible assumption) (by first | omega | (simp; done) | (simp; omega)))) | (refine Below.trans ?_ (Below.mono (by assumption) (by first | omega | (simp; done) | (simp; omega))))))) (Nat.le_refl _) (by first | omega | (simp; done) | (simp; omega) | (simp at *; omega)) gr1; simp only [Nat.zero_add, List.nil_append] at o1) | (refine step_app_reads_g peRow (by rfl) (.tmp 16) (.tmp 20) (by rfl) W6.heap.size v1 (i) ((l.take i).flatMap peV) (by rfl) (by (repeat (first | (with_reducible exact o1) | (with_reducible refine World.ownsRow.alloc ?_ _) | (with_reducible refine World.ownsRow.drew ?_))); done) _ (l.length - (i + 1)) ((l.drop (i + 1)).flatMap peV) (by rfl) (Reads.below RD.out bb1) (peV_ones _) (by omega) (by omega) (by first | exact bb1.size | (refine Nat.le_trans bb1.size ?_; simp)) ?_; intro v2 w2 o2 gr2; have bb2 : Below W6.heap.size W6 w2 := below_grown (base := W6.heap.size) (e := 66) (size := 10) (v := v1) (n := i) (xs := (l.take i).flatMap peV) (by (repeat (first | (with_reducible exact o1) | (with_reducible refine World.ownsRow.alloc ?_ _) | (with_reducible refine World.ownsRow.drew ?_))); done) (by first | exact bb1 | exact bb1.drew | exact Below.alloc bb1 bb1.size _ | exact (Below.alloc bb1 bb1.size _).drew) (Nat.le_refl _) (by first | exact bb1.size | (refine Nat.le_trans bb1.size ?_; simp)) gr2) | fail)
    all_goals
      go_wp2_with fail
      go_ret2
      exact ⟨_, rfl, HK.out _ _ o2, below2 HB6.out bb2⟩
end Go.Proofs.Ytppmjbnhghaffaa
