/- Texts put together: CallD. No condition. -/
import Derived.Test.YtnohkfbapibmdaaGreatRroffwkqthb
import Derived.Test.YtnohkfbapibmdaaGreatRkqmgfdjskx
namespace Go.Proofs.YtnohkfbapibmdaaGreat
open Go.RowKit
set_option linter.unusedSimpArgs false
set_option linter.unusedVariables false

def clV (c : Cl) : List Value := [.int .i64 c.kind, .bool c.en.ad.v6, .int .u64 c.en.ad.hi, .int .u64 c.en.ad.lo, .int .i64 c.en.port, .bool c.nt.ad.v6, .int .u64 c.nt.ad.hi, .int .u64 c.nt.ad.lo, .int .i64 c.nt.bits, .int .i64 c.now, .int .i64 c.num, .bool c.good]
theorem clean_take (c : Cl) (L : List Nat) (k p : Nat) (o : Cl) (hp : L[k]? = some p) : (L.take (k + 1)).foldl (clPut c) o = clPut c ((L.take k).foldl (clPut c) o) p := by
  rw [List.take_add_one, hp]; simp
set_option maxRecDepth 100000 in
set_option maxHeartbeats 8000000 in
theorem clClean_any (c : Cl) (w : World) : Calls Tryz.prog 9 #[.agg #[.int .i64 c.kind, .bool c.en.ad.v6, .int .u64 c.en.ad.hi, .int .u64 c.en.ad.lo, .int .i64 c.en.port, .bool c.nt.ad.v6, .int .u64 c.nt.ad.hi, .int .u64 c.nt.ad.lo, .int .i64 c.nt.bits, .int .i64 c.now, .int .i64 c.num, .bool c.good]] w fun e w' => e = .returned (.agg #[.int .i64 ((clClean c)).kind, .bool ((clClean c)).en.ad.v6, .int .u64 ((clClean c)).en.ad.hi, .int .u64 ((clClean c)).en.ad.lo, .int .i64 ((clClean c)).en.port, .bool ((clClean c)).nt.ad.v6, .int .u64 ((clClean c)).nt.ad.hi, .int .u64 ((clClean c)).nt.ad.lo, .int .i64 ((clClean c)).nt.bits, .int .i64 ((clClean c)).now, .int .i64 ((clClean c)).num, .bool ((clClean c)).good]) ∧ Below w.heap.size w w' := by
  have HN := Lib.hid (fun w => codeCall_any c.kind w)
  by_cases hn : nameAt callN c.kind = []
  · have q : ((bs (nameAt callN c.kind)).toList == []) = true := by rw [bs_toL, hn]; rfl
    have hz : clClean c = zeroCl 0 := by unfold clClean; rw [if_pos hn]
    rw [hz]
    unfold zeroCl
    simp only [show ((0 : Nat) : Int) = 0 from rfl]
    clear hn hz
    generalize nameAt callN c.kind = nm at *
    go_enter Tryz.func9, Tryz.ntmps9
    go_wp2_with (go_at_call 24; (with_reducible refine (HN.out _).mono ?_); rintro e w1 ⟨rfl, b1⟩; obtain ⟨c1, f1⟩ := bcell b1; have z1 := b1.size; (try simp at z1); have d1a := fun o => c1 (w.heap.size) o (by first | omega | (simp; done) | (simp; omega)); have d1b := fun o => c1 (w.heap.size + 1) o (by first | omega | (simp; done) | (simp; omega)); have q1b := fun o => f1 (w.heap.size + 1) o (by first | omega | (simp; done) | (simp; omega)); clear c1 f1)
    refine bodyPost_named fun W9 h9 => ?_
    have e90 : W9.cell? ⟨w.heap.size + 1, 0, none⟩ = some (.int .i64 0) := by subst h9; (first | (simp [go_sem, *]; done) | (simp (disch := first | omega | (simp; omega) | (simp [go_sem, *]; done)) [go_sem, World.cell?_setCell_far, World.cell?_alloc_past, *]; done))
    have e91 : W9.cell? ⟨w.heap.size + 1, 1, none⟩ = some (.bool false) := by subst h9; (first | (simp [go_sem, *]; done) | (simp (disch := first | omega | (simp; omega) | (simp [go_sem, *]; done)) [go_sem, World.cell?_setCell_far, World.cell?_alloc_past, *]; done))
    have e92 : W9.cell? ⟨w.heap.size + 1, 2, none⟩ = some (.int .u64 0) := by subst h9; (first | (simp [go_sem, *]; done) | (simp (disch := first | omega | (simp; omega) | (simp [go_sem, *]; done)) [go_sem, World.cell?_setCell_far, World.cell?_alloc_past, *]; done))
    have e93 : W9.cell? ⟨w.heap.size + 1, 3, none⟩ = some (.int .u64 0) := by subst h9; (first | (simp [go_sem, *]; done) | (simp (disch := first | omega | (simp; omega) | (simp [go_sem, *]; done)) [go_sem, World.cell?_setCell_far, World.cell?_alloc_past, *]; done))
    have e94 : W9.cell? ⟨w.heap.size + 1, 4, none⟩ = some (.int .i64 0) := by subst h9; (first | (simp [go_sem, *]; done) | (simp (disch := first | omega | (simp; omega) | (simp [go_sem, *]; done)) [go_sem, World.cell?_setCell_far, World.cell?_alloc_past, *]; done))
    have e95 : W9.cell? ⟨w.heap.size + 1, 5, none⟩ = some (.bool false) := by subst h9; (first | (simp [go_sem, *]; done) | (simp (disch := first | omega | (simp; omega) | (simp [go_sem, *]; done)) [go_sem, World.cell?_setCell_far, World.cell?_alloc_past, *]; done))
    have e96 : W9.cell? ⟨w.heap.size + 1, 6, none⟩ = some (.int .u64 0) := by subst h9; (first | (simp [go_sem, *]; done) | (simp (disch := first | omega | (simp; omega) | (simp [go_sem, *]; done)) [go_sem, World.cell?_setCell_far, World.cell?_alloc_past, *]; done))
    have e97 : W9.cell? ⟨w.heap.size + 1, 7, none⟩ = some (.int .u64 0) := by subst h9; (first | (simp [go_sem, *]; done) | (simp (disch := first | omega | (simp; omega) | (simp [go_sem, *]; done)) [go_sem, World.cell?_setCell_far, World.cell?_alloc_past, *]; done))
    have e98 : W9.cell? ⟨w.heap.size + 1, 8, none⟩ = some (.int .i64 0) := by subst h9; (first | (simp [go_sem, *]; done) | (simp (disch := first | omega | (simp; omega) | (simp [go_sem, *]; done)) [go_sem, World.cell?_setCell_far, World.cell?_alloc_past, *]; done))
    have e99 : W9.cell? ⟨w.heap.size + 1, 9, none⟩ = some (.int .i64 0) := by subst h9; (first | (simp [go_sem, *]; done) | (simp (disch := first | omega | (simp; omega) | (simp [go_sem, *]; done)) [go_sem, World.cell?_setCell_far, World.cell?_alloc_past, *]; done))
    have e910 : W9.cell? ⟨w.heap.size + 1, 10, none⟩ = some (.int .i64 0) := by subst h9; (first | (simp [go_sem, *]; done) | (simp (disch := first | omega | (simp; omega) | (simp [go_sem, *]; done)) [go_sem, World.cell?_setCell_far, World.cell?_alloc_past, *]; done))
    have e911 : W9.cell? ⟨w.heap.size + 1, 11, none⟩ = some (.bool false) := by subst h9; (first | (simp [go_sem, *]; done) | (simp (disch := first | omega | (simp; omega) | (simp [go_sem, *]; done)) [go_sem, World.cell?_setCell_far, World.cell?_alloc_past, *]; done))
    have b9 : Below w.heap.size w W9 := by subst h9; (repeat (first | with_reducible assumption | with_reducible exact Below.refl _ _ | with_reducible refine Below.setCell ?_ (by first | omega | (simp; done) | (simp; omega)) _ | with_reducible refine Below.alloc ?_ (by first | omega | (simp; done) | (simp; omega)) _ | with_reducible refine Below.drew ?_ | (with_reducible refine Below.trans ?_ (Below.mono (by with_reducible assumption) (by first | omega | (simp; done) | (simp; omega)))) | (refine Below.trans ?_ (Below.mono (by assumption) (by first | omega | (simp; done) | (simp; omega))))))
    clear h9
    refine bodyPost_ret (v := .agg #[.int .i64 0, .bool false, .int .u64 0, .int .u64 0, .int .i64 0, .bool false, .int .u64 0, .int .u64 0, .int .i64 0, .int .i64 0, .int .i64 0, .bool false]) (by simp [results, Tryz.results9, go_sem, e90, e91, e92, e93, e94, e95, e96, e97, e98, e99, e910, e911]) rfl ⟨?_, b9⟩
    rfl
  · have q : ((bs (nameAt callN c.kind)).toList == []) = false := by rw [bs_toL]; simpa using hn
    have HP := Lib.hid (fun w => parts_any33 c.kind w)
    have hz : clClean c = (clParts c.kind).foldl (clPut c) (zeroCl c.kind) := by unfold clClean; rw [if_neg hn]
    rw [hz]
    have hL4 : (clParts c.kind).length ≤ 4 := by unfold clParts; repeat' split
                                                 all_goals decide
    have h5 := Lib.hid (parts_le5 c.kind)
    clear hn hz
    generalize nameAt callN c.kind = nm at *
    generalize clParts c.kind = L at *
    obtain ⟨o, ho⟩ : ∃ o, L.foldl (clPut c) (zeroCl c.kind) = o := ⟨_, rfl⟩
    rw [ho]
    have HF := Lib.hid ho; clear ho
    have HBk : Hid (BlockIs (w.alloc (.cells #[.int .i64 c.kind, .bool c.en.ad.v6, .int .u64 c.en.ad.hi, .int .u64 c.en.ad.lo, .int .i64 c.en.port, .bool c.nt.ad.v6, .int .u64 c.nt.ad.hi, .int .u64 c.nt.ad.lo, .int .i64 c.nt.bits, .int .i64 c.now, .int .i64 c.num, .bool c.good] 30)) w.heap.size [.int .i64 c.kind, .bool c.en.ad.v6, .int .u64 c.en.ad.hi, .int .u64 c.en.ad.lo, .int .i64 c.en.port, .bool c.nt.ad.v6, .int .u64 c.nt.ad.hi, .int .u64 c.nt.ad.lo, .int .i64 c.nt.bits, .int .i64 c.now, .int .i64 c.num, .bool c.good] 30) := BlockIs.new w [.int .i64 c.kind, .bool c.en.ad.v6, .int .u64 c.en.ad.hi, .int .u64 c.en.ad.lo, .int .i64 c.en.port, .bool c.nt.ad.v6, .int .u64 c.nt.ad.hi, .int .u64 c.nt.ad.lo, .int .i64 c.nt.bits, .int .i64 c.now, .int .i64 c.num, .bool c.good] _
    go_enter Tryz.func9, Tryz.ntmps9
    go_wp2_with (first | (go_at_call 24; (with_reducible refine (HN.out _).mono ?_); rintro e w1 ⟨rfl, b1⟩; obtain ⟨c1, f1⟩ := bcell b1; have z1 := b1.size; (try simp at z1); have l1a : w.heap.size < w1.heap.size := (by omega); have n1a := Nat.ne_of_lt l1a; have d1a := fun o => c1 (w.heap.size) o (by first | omega | (simp; done) | (simp; omega)); have l1b : w.heap.size + 1 < w1.heap.size := (by omega); have n1b := Nat.ne_of_lt l1b; have d1b := fun o => c1 (w.heap.size + 1) o (by first | omega | (simp; done) | (simp; omega)); have q1b := fun o => f1 (w.heap.size + 1) o (by first | omega | (simp; done) | (simp; omega)); clear c1 f1) | (go_at_call 15; (with_reducible refine (HP.out _).mono ?_); rintro e w2 ⟨a, cc, rfl, hpa, b2⟩; have HPA := Lib.hid hpa; clear hpa; have z2 := b2.size; (try simp at z2)))
    go_name_world WWx hWWx
    have ww0 : w1.heap.size < WWx.heap.size := by subst hWWx; first | omega | (simp; omega)
    have bwx : Hid (Below w.heap.size w WWx) := by subst hWWx; unfold Hid; (repeat (first | with_reducible assumption | with_reducible exact Below.refl _ _ | with_reducible refine Below.setCell ?_ (by first | omega | (simp; done) | (simp; omega)) _ | with_reducible refine Below.alloc ?_ (by first | omega | (simp; done) | (simp; omega)) _ | with_reducible refine Below.drew ?_ | (with_reducible refine Below.trans ?_ (Below.mono (by with_reducible assumption) (by first | omega | (simp; done) | (simp; omega)))) | (refine Below.trans ?_ (Below.mono (by assumption) (by first | omega | (simp; done) | (simp; omega))))))
    have hB : Hid (BlockIs WWx w.heap.size [.int .i64 c.kind, .bool c.en.ad.v6, .int .u64 c.en.ad.hi, .int .u64 c.en.ad.lo, .int .i64 c.en.port, .bool c.nt.ad.v6, .int .u64 c.nt.ad.hi, .int .u64 c.nt.ad.lo, .int .i64 c.nt.bits, .int .i64 c.now, .int .i64 c.num, .bool c.good] 30) := by subst hWWx; exact (((HBk.out.alloc' _).below b1).alloc' _).below b2
    have hR : Hid (BlockIs WWx (w.heap.size + 1) [.int .i64 0, .bool false, .int .u64 0, .int .u64 0, .int .i64 0, .bool false, .int .u64 0, .int .u64 0, .int .i64 0, .int .i64 0, .int .i64 0, .bool false] 30) := by subst hWWx; exact (((BlockIs.newAt' _ _ _ (by simp)).below b1).alloc' _).below b2
    have hO : Hid (BlockIs WWx w1.heap.size (clV (zeroCl c.kind)) 30) := by subst hWWx; exact (BlockIs.new w1 _ _).below b2
    have hQ : Hid (PartsAt WWx a cc L) := by subst hWWx; exact HPA.out
    clear hWWx HPA HBk b1 b2 d1a d1b q1b
    generalize w1.heap.size = O at *
    go_loopw [5, 18] (fun _ i wr => ∃ k : Nat, k ≤ L.length ∧ i = .int .i64 k ∧ Hid (BlockIs wr O (clV ((L.take k).foldl (clPut c) (zeroCl c.kind))) 30) ∧ Hid (Below O WWx wr) ∧ Hid (PartsAt wr a cc L)) (fun _ i _ => L.length - (intOf i).toNat)
    case atStart => exact ⟨0, Nat.zero_le _, rfl, hO.out, Below.refl _ _, hQ.out⟩
    case round =>
      obtain ⟨k, hk, rfl, HO, HB, HQ⟩ := hrel
      have zr := HB.out.size
      have bww : Hid (Below w.heap.size w wr) := bwx.out.trans (HB.out.mono (by omega))
      have hRr := blk_belowC hR.out HB.out l1b
      by_cases hlt : k < L.length
      · obtain ⟨p, hp⟩ : ∃ p, L[k]? = some p := ⟨_, List.getElem?_eq_getElem hlt⟩
        obtain ⟨B, rfl, hcc, hK⟩ := HQ.out (by omega)
        have hKl := hK.lt
        have hBr := blk_belowC hB.out HB.out l1a
        have c0 := hBr.cell (i := 0) rfl
        have c1 := hBr.cell (i := 1) rfl
        have c2 := hBr.cell (i := 2) rfl
        have c3 := hBr.cell (i := 3) rfl
        have c4 := hBr.cell (i := 4) rfl
        have c5 := hBr.cell (i := 5) rfl
        have c6 := hBr.cell (i := 6) rfl
        have c7 := hBr.cell (i := 7) rfl
        have c8 := hBr.cell (i := 8) rfl
        have c9 := hBr.cell (i := 9) rfl
        have c10 := hBr.cell (i := 10) rfl
        have c11 := hBr.cell (i := 11) rfl
        have cf := hBr.frozen
        have cl := hBr.lt
        have hst := clean_take c L k p (zeroCl c.kind) hp
        have hOr := HO.out
        clear HF
        generalize (L.take k).foldl (clPut c) (zeroCl c.kind) = u at hst hOr
        have HST := Lib.hid hst
        unfold clV at hOr
        have o0 := hOr.cell (i := 0) rfl
        have o1 := hOr.cell (i := 1) rfl
        have o2 := hOr.cell (i := 2) rfl
        have o3 := hOr.cell (i := 3) rfl
        have o4 := hOr.cell (i := 4) rfl
        have o5 := hOr.cell (i := 5) rfl
        have o6 := hOr.cell (i := 6) rfl
        have o7 := hOr.cell (i := 7) rfl
        have o8 := hOr.cell (i := 8) rfl
        have o9 := hOr.cell (i := 9) rfl
        have o10 := hOr.cell (i := 10) rfl
        have o11 := hOr.cell (i := 11) rfl
        have of := hOr.frozen
        have ol := hOr.lt
        have hBO : B ≠ O := fun e => by
          subst e
          have h1 := hK; have h2 := hOr
          unfold BlockIs at h1 h2
          rw [h2] at h1
          injection h1 with h1
          injection h1 with _ h1
          exact absurd h1 (by decide)
        have q1 : (0 : Int) ≤ (k : Int) := by omega
        have q2 : (k : Int) < (L.length : Int) := by omega
        have hpm := h5.out p (List.mem_of_getElem? hp)
        have HKK := Lib.hid hK; have HOO := Lib.hid hOr
        have hpc := part_cell hK hp
        clear hp hBr hst hK hOr HO hRr
        rcases (by omega : p = 0 ∨ p = 1 ∨ p = 2 ∨ p = 3 ∨ p = 4 ∨ p = 5) with rfl | rfl | rfl | rfl | rfl | rfl

        · have x0 : wr.cell? ⟨B, k, none⟩ = some (.int .i64 0) := hpc
          clear hpc
          go_wp2_with fail
          go_roundw
          case rel => exact ⟨k + 1, by omega, by go_num, (by unfold Hid; rw [HST.out]; exact ((((HOO.out.set 1 _).set 2 _).set 3 _).set 4 _)), ((((HB.out.setCell (Nat.le_refl _) _).setCell (Nat.le_refl _) _).setCell (Nat.le_refl _) _).setCell (Nat.le_refl _) _), fun _ => ⟨B, rfl, hcc, ((((HKK.out.other (show O ≠ B from fun e => hBO e.symm) _).other (show O ≠ B from fun e => hBO e.symm) _).other (show O ≠ B from fun e => hBO e.symm) _).other (show O ≠ B from fun e => hBO e.symm) _)⟩⟩
          case measure => simp [intOf]; omega
        · have x0 : wr.cell? ⟨B, k, none⟩ = some (.int .i64 1) := hpc
          clear hpc
          go_wp2_with fail
          go_roundw
          case rel => exact ⟨k + 1, by omega, by go_num, (by unfold Hid; rw [HST.out]; exact ((((HOO.out.set 5 _).set 6 _).set 7 _).set 8 _)), ((((HB.out.setCell (Nat.le_refl _) _).setCell (Nat.le_refl _) _).setCell (Nat.le_refl _) _).setCell (Nat.le_refl _) _), fun _ => ⟨B, rfl, hcc, ((((HKK.out.other (show O ≠ B from fun e => hBO e.symm) _).other (show O ≠ B from fun e => hBO e.symm) _).other (show O ≠ B from fun e => hBO e.symm) _).other (show O ≠ B from fun e => hBO e.symm) _)⟩⟩
          case measure => simp [intOf]; omega
        · have x0 : wr.cell? ⟨B, k, none⟩ = some (.int .i64 2) := hpc
          clear hpc
          go_wp2_with fail
          go_roundw
          case rel => exact ⟨k + 1, by omega, by go_num, (by unfold Hid; rw [HST.out]; exact (((HOO.out.set 1 _).set 2 _).set 3 _)), (((HB.out.setCell (Nat.le_refl _) _).setCell (Nat.le_refl _) _).setCell (Nat.le_refl _) _), fun _ => ⟨B, rfl, hcc, (((HKK.out.other (show O ≠ B from fun e => hBO e.symm) _).other (show O ≠ B from fun e => hBO e.symm) _).other (show O ≠ B from fun e => hBO e.symm) _)⟩⟩
          case measure => simp [intOf]; omega
        · have x0 : wr.cell? ⟨B, k, none⟩ = some (.int .i64 3) := hpc
          clear hpc
          go_wp2_with fail
          go_roundw
          case rel => exact ⟨k + 1, by omega, by go_num, (by unfold Hid; rw [HST.out]; exact (HOO.out.set 9 _)), (HB.out.setCell (Nat.le_refl _) _), fun _ => ⟨B, rfl, hcc, (HKK.out.other (show O ≠ B from fun e => hBO e.symm) _)⟩⟩
          case measure => simp [intOf]; omega
        · have x0 : wr.cell? ⟨B, k, none⟩ = some (.int .i64 4) := hpc
          clear hpc
          go_wp2_with fail
          go_roundw
          case rel => exact ⟨k + 1, by omega, by go_num, (by unfold Hid; rw [HST.out]; exact (HOO.out.set 10 _)), (HB.out.setCell (Nat.le_refl _) _), fun _ => ⟨B, rfl, hcc, (HKK.out.other (show O ≠ B from fun e => hBO e.symm) _)⟩⟩
          case measure => simp [intOf]; omega
        · have x0 : wr.cell? ⟨B, k, none⟩ = some (.int .i64 5) := hpc
          clear hpc
          go_wp2_with fail
          go_roundw
          case rel => exact ⟨k + 1, by omega, by go_num, (by unfold Hid; rw [HST.out]; exact (HOO.out.set 11 _)), (HB.out.setCell (Nat.le_refl _) _), fun _ => ⟨B, rfl, hcc, (HKK.out.other (show O ≠ B from fun e => hBO e.symm) _)⟩⟩
          case measure => simp [intOf]; omega
      · obtain rfl : k = L.length := by omega
        have hOr := HO.out
        rw [List.take_length] at hOr
        have bwr := bww.out
        rw [HF.out] at hOr
        unfold clV at hOr
        have o0 := hOr.cell (i := 0) rfl
        have o1 := hOr.cell (i := 1) rfl
        have o2 := hOr.cell (i := 2) rfl
        have o3 := hOr.cell (i := 3) rfl
        have o4 := hOr.cell (i := 4) rfl
        have o5 := hOr.cell (i := 5) rfl
        have o6 := hOr.cell (i := 6) rfl
        have o7 := hOr.cell (i := 7) rfl
        have o8 := hOr.cell (i := 8) rfl
        have o9 := hOr.cell (i := 9) rfl
        have o10 := hOr.cell (i := 10) rfl
        have o11 := hOr.cell (i := 11) rfl
        have of := hOr.frozen
        have ol := hOr.lt
        have r0 := hRr.cell (i := 0) rfl
        have r1 := hRr.cell (i := 1) rfl
        have r2 := hRr.cell (i := 2) rfl
        have r3 := hRr.cell (i := 3) rfl
        have r4 := hRr.cell (i := 4) rfl
        have r5 := hRr.cell (i := 5) rfl
        have r6 := hRr.cell (i := 6) rfl
        have r7 := hRr.cell (i := 7) rfl
        have r8 := hRr.cell (i := 8) rfl
        have r9 := hRr.cell (i := 9) rfl
        have r10 := hRr.cell (i := 10) rfl
        have r11 := hRr.cell (i := 11) rfl
        have rf := hRr.frozen
        have rl := hRr.lt
        clear hOr hRr
        go_wp2_with fail
        refine bodyPost_named fun W9 h9 => ?_
        have e90 : W9.cell? ⟨w.heap.size + 1, 0, none⟩ = some (.int .i64 o.kind) := by subst h9; (first | (simp [go_sem, *]; done) | (simp (disch := first | omega | (simp; omega) | (simp [go_sem, *]; done)) [go_sem, World.cell?_setCell_far, World.cell?_alloc_past, *]; done))
        have e91 : W9.cell? ⟨w.heap.size + 1, 1, none⟩ = some (.bool o.en.ad.v6) := by subst h9; (first | (simp [go_sem, *]; done) | (simp (disch := first | omega | (simp; omega) | (simp [go_sem, *]; done)) [go_sem, World.cell?_setCell_far, World.cell?_alloc_past, *]; done))
        have e92 : W9.cell? ⟨w.heap.size + 1, 2, none⟩ = some (.int .u64 o.en.ad.hi) := by subst h9; (first | (simp [go_sem, *]; done) | (simp (disch := first | omega | (simp; omega) | (simp [go_sem, *]; done)) [go_sem, World.cell?_setCell_far, World.cell?_alloc_past, *]; done))
        have e93 : W9.cell? ⟨w.heap.size + 1, 3, none⟩ = some (.int .u64 o.en.ad.lo) := by subst h9; (first | (simp [go_sem, *]; done) | (simp (disch := first | omega | (simp; omega) | (simp [go_sem, *]; done)) [go_sem, World.cell?_setCell_far, World.cell?_alloc_past, *]; done))
        have e94 : W9.cell? ⟨w.heap.size + 1, 4, none⟩ = some (.int .i64 o.en.port) := by subst h9; (first | (simp [go_sem, *]; done) | (simp (disch := first | omega | (simp; omega) | (simp [go_sem, *]; done)) [go_sem, World.cell?_setCell_far, World.cell?_alloc_past, *]; done))
        have e95 : W9.cell? ⟨w.heap.size + 1, 5, none⟩ = some (.bool o.nt.ad.v6) := by subst h9; (first | (simp [go_sem, *]; done) | (simp (disch := first | omega | (simp; omega) | (simp [go_sem, *]; done)) [go_sem, World.cell?_setCell_far, World.cell?_alloc_past, *]; done))
        have e96 : W9.cell? ⟨w.heap.size + 1, 6, none⟩ = some (.int .u64 o.nt.ad.hi) := by subst h9; (first | (simp [go_sem, *]; done) | (simp (disch := first | omega | (simp; omega) | (simp [go_sem, *]; done)) [go_sem, World.cell?_setCell_far, World.cell?_alloc_past, *]; done))
        have e97 : W9.cell? ⟨w.heap.size + 1, 7, none⟩ = some (.int .u64 o.nt.ad.lo) := by subst h9; (first | (simp [go_sem, *]; done) | (simp (disch := first | omega | (simp; omega) | (simp [go_sem, *]; done)) [go_sem, World.cell?_setCell_far, World.cell?_alloc_past, *]; done))
        have e98 : W9.cell? ⟨w.heap.size + 1, 8, none⟩ = some (.int .i64 o.nt.bits) := by subst h9; (first | (simp [go_sem, *]; done) | (simp (disch := first | omega | (simp; omega) | (simp [go_sem, *]; done)) [go_sem, World.cell?_setCell_far, World.cell?_alloc_past, *]; done))
        have e99 : W9.cell? ⟨w.heap.size + 1, 9, none⟩ = some (.int .i64 o.now) := by subst h9; (first | (simp [go_sem, *]; done) | (simp (disch := first | omega | (simp; omega) | (simp [go_sem, *]; done)) [go_sem, World.cell?_setCell_far, World.cell?_alloc_past, *]; done))
        have e910 : W9.cell? ⟨w.heap.size + 1, 10, none⟩ = some (.int .i64 o.num) := by subst h9; (first | (simp [go_sem, *]; done) | (simp (disch := first | omega | (simp; omega) | (simp [go_sem, *]; done)) [go_sem, World.cell?_setCell_far, World.cell?_alloc_past, *]; done))
        have e911 : W9.cell? ⟨w.heap.size + 1, 11, none⟩ = some (.bool o.good) := by subst h9; (first | (simp [go_sem, *]; done) | (simp (disch := first | omega | (simp; omega) | (simp [go_sem, *]; done)) [go_sem, World.cell?_setCell_far, World.cell?_alloc_past, *]; done))
        have b9 : Below w.heap.size w W9 := by subst h9; (repeat (first | with_reducible assumption | with_reducible exact Below.refl _ _ | with_reducible refine Below.setCell ?_ (by first | omega | (simp; done) | (simp; omega)) _ | with_reducible refine Below.alloc ?_ (by first | omega | (simp; done) | (simp; omega)) _ | with_reducible refine Below.drew ?_ | (with_reducible refine Below.trans ?_ (Below.mono (by with_reducible assumption) (by first | omega | (simp; done) | (simp; omega)))) | (refine Below.trans ?_ (Below.mono (by assumption) (by first | omega | (simp; done) | (simp; omega))))))
        clear h9
        refine bodyPost_ret (v := .agg #[.int .i64 o.kind, .bool o.en.ad.v6, .int .u64 o.en.ad.hi, .int .u64 o.en.ad.lo, .int .i64 o.en.port, .bool o.nt.ad.v6, .int .u64 o.nt.ad.hi, .int .u64 o.nt.ad.lo, .int .i64 o.nt.bits, .int .i64 o.now, .int .i64 o.num, .bool o.good]) (by simp [results, Tryz.results9, go_sem, e90, e91, e92, e93, e94, e95, e96, e97, e98, e99, e910, e911]) rfl ⟨?_, b9⟩
        rfl
end Go.Proofs.YtnohkfbapibmdaaGreat
