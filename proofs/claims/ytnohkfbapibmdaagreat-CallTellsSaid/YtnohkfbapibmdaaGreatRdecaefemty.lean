/- Texts put together: RefCallC. No condition. -/
import Derived.Test.YtnohkfbapibmdaaGreatRkxixqffatb
import Derived.Test.YtnohkfbapibmdaaGreatRkgffnfeknt
namespace Go.Proofs.YtnohkfbapibmdaaGreat
open Go.RowKit
set_option linter.unusedSimpArgs false
set_option linter.unusedVariables false

set_option maxRecDepth 100000 in
set_option maxHeartbeats 8000000 in
theorem refClClean_any (c : Cl) (w : World) : Calls Tryz.prog 10 #[.agg #[.int .i64 c.kind, .bool c.en.ad.v6, .int .u64 c.en.ad.hi, .int .u64 c.en.ad.lo, .int .i64 c.en.port, .bool c.nt.ad.v6, .int .u64 c.nt.ad.hi, .int .u64 c.nt.ad.lo, .int .i64 c.nt.bits, .int .i64 c.now, .int .i64 c.num, .bool c.good]] w fun e w' => e = .returned (.agg #[.int .i64 ((clClean c)).kind, .bool ((clClean c)).en.ad.v6, .int .u64 ((clClean c)).en.ad.hi, .int .u64 ((clClean c)).en.ad.lo, .int .i64 ((clClean c)).en.port, .bool ((clClean c)).nt.ad.v6, .int .u64 ((clClean c)).nt.ad.hi, .int .u64 ((clClean c)).nt.ad.lo, .int .i64 ((clClean c)).nt.bits, .int .i64 ((clClean c)).now, .int .i64 ((clClean c)).num, .bool ((clClean c)).good]) ∧ Below w.heap.size w w' := by
  by_cases hk : 1 ≤ c.kind ∧ c.kind ≤ 13
  · rw [clean_in hk]
    have h1 : ¬ c.kind < 1 := by omega
    have h2 : ¬ 13 < c.kind := by omega
    have HSh := Lib.hid (fun W => refShape_any c.kind W)
    unfold shapeL at HSh
    have hL4 : (clParts c.kind).length ≤ 4 := by
      unfold clParts
      repeat' split
      all_goals decide
    have H5 := Lib.hid (parts_le5 c.kind)
    have HGT := Lib.hid (fun k p h hk => shape_get (L := clParts c.kind) (k := k) (p := p) h hk)
    have HSZ : Hid ((bs ((clParts c.kind).map letterOf)).size = (clParts c.kind).length) := by show _ = _; rw [bs_size, List.length_map]
    clear hk
    generalize bs ((clParts c.kind).map letterOf) = s at *
    generalize clParts c.kind = L at *
    obtain ⟨o, ho⟩ : ∃ o, L.foldl (clPut c) (zeroCl c.kind) = o := ⟨_, rfl⟩
    rw [ho]
    have HF := Lib.hid ho; clear ho
    go_enter Tryz.func10, Tryz.ntmps10
    go_upto_region 6 with (go_at_call 19; (with_reducible refine (HSh.out _).mono ?_); rintro e w1 ⟨rfl, b1⟩)
    have z1 := b1.size
    simp only [World.size_alloc] at z1
    have hB : Hid (BlockIs w1 w.heap.size [.int .i64 c.kind, .bool c.en.ad.v6, .int .u64 c.en.ad.hi, .int .u64 c.en.ad.lo, .int .i64 c.en.port, .bool c.nt.ad.v6, .int .u64 c.nt.ad.hi, .int .u64 c.nt.ad.lo, .int .i64 c.nt.bits, .int .i64 c.now, .int .i64 c.num, .bool c.good] 30) := (((BlockIs.new w [.int .i64 c.kind, .bool c.en.ad.v6, .int .u64 c.en.ad.hi, .int .u64 c.en.ad.lo, .int .i64 c.en.port, .bool c.nt.ad.v6, .int .u64 c.nt.ad.hi, .int .u64 c.nt.ad.lo, .int .i64 c.nt.bits, .int .i64 c.now, .int .i64 c.num, .bool c.good] _).alloc' _).alloc' _).below b1
    have hR : Hid (BlockIs w1 (w.heap.size + 1) [.int .i64 0, .bool false, .int .u64 0, .int .u64 0, .int .i64 0, .bool false, .int .u64 0, .int .u64 0, .int .i64 0, .int .i64 0, .int .i64 0, .bool false] 30) := ((BlockIs.newAt' (w.alloc (.cells #[.int .i64 c.kind, .bool c.en.ad.v6, .int .u64 c.en.ad.hi, .int .u64 c.en.ad.lo, .int .i64 c.en.port, .bool c.nt.ad.v6, .int .u64 c.nt.ad.hi, .int .u64 c.nt.ad.lo, .int .i64 c.nt.bits, .int .i64 c.now, .int .i64 c.num, .bool c.good] 30)) [.int .i64 0, .bool false, .int .u64 0, .int .u64 0, .int .i64 0, .bool false, .int .u64 0, .int .u64 0, .int .i64 0, .int .i64 0, .int .i64 0, .bool false] _ (by simp)).alloc' _).below b1
    have hO : Hid (BlockIs w1 (w.heap.size + 2) (clV (zeroCl c.kind)) 30) := (BlockIs.newAt' ((w.alloc (.cells #[.int .i64 c.kind, .bool c.en.ad.v6, .int .u64 c.en.ad.hi, .int .u64 c.en.ad.lo, .int .i64 c.en.port, .bool c.nt.ad.v6, .int .u64 c.nt.ad.hi, .int .u64 c.nt.ad.lo, .int .i64 c.nt.bits, .int .i64 c.now, .int .i64 c.num, .bool c.good] 30)).alloc (.cells #[.int .i64 0, .bool false, .int .u64 0, .int .u64 0, .int .i64 0, .bool false, .int .u64 0, .int .u64 0, .int .i64 0, .int .i64 0, .int .i64 0, .bool false] 30)) (clV (zeroCl c.kind)) _ (by simp)).below b1
    have bwx : Hid (Below w.heap.size w w1) := by show Below _ _ _; (repeat (first | with_reducible assumption | with_reducible exact Below.refl _ _ | with_reducible refine Below.setCell ?_ (by first | omega | (simp; done) | (simp; omega)) _ | with_reducible refine Below.alloc ?_ (by first | omega | (simp; done) | (simp; omega)) _ | with_reducible refine Below.drew ?_ | (with_reducible refine Below.trans ?_ (Below.mono (by with_reducible assumption) (by first | omega | (simp; done) | (simp; omega)))) | (refine Below.trans ?_ (Below.mono (by assumption) (by first | omega | (simp; done) | (simp; omega))))))
    clear b1 HSh
    go_loopw [5] (fun i wr => ∃ k : Nat, k ≤ L.length ∧ i = .int .i64 k ∧ Hid (BlockIs wr (w.heap.size + 2) (clV ((L.take k).foldl (clPut c) (zeroCl c.kind))) 30) ∧ Hid (Below (w.heap.size + 2) w1 wr)) (fun i _ => L.length - (intOf i).toNat)
    case atStart => exact ⟨0, Nat.zero_le _, rfl, hO.out, Below.refl _ _⟩
    case round =>
      clear hO
      obtain ⟨k, hk, rfl, HO, HB⟩ := hrel
      have zr := HB.out.size
      have bww : Hid (Below w.heap.size w wr) := bwx.out.trans (HB.out.mono (by omega))
      have hRr := blk_belowC hR.out HB.out (by omega)
      by_cases hlt : k < L.length
      · obtain ⟨p, hp⟩ : ∃ p, L[k]? = some p := ⟨_, List.getElem?_eq_getElem hlt⟩
        have hkl : k < s.size := by rw [HSZ.out]; exact hlt
        have hsk := HGT.out k p hp hkl
        have hBr := blk_belowC hB.out HB.out (by omega)
        have c0 := hBr.cell (i := 0) rfl
        have c1 := hBr.cell (i := 1) rfl
        have c2 := hBr.cell (i := 2) rfl
        have c3 := hBr.cell (i := 3) rfl
        have c4 := hBr.cell (i := 4) rfl
        have c5 := hBr.cell (i := 5) rfl
        have c6 := hBr.cell (i := 6) rfl
        have c7 := hBr.cell (i := 7) rfl
        have c8 := hBr.cell (i := 8) rfl
        have c9 := hBr.cell (i := 9) rfl
        have c10 := hBr.cell (i := 10) rfl
        have c11 := hBr.cell (i := 11) rfl
        have cf := hBr.frozen
        have cl := hBr.lt
        have hst := clean_take c L k p (zeroCl c.kind) hp
        have hOr := HO.out
        clear HF
        generalize (L.take k).foldl (clPut c) (zeroCl c.kind) = u at hst hOr
        have HST := Lib.hid hst
        unfold clV at hOr
        have o0 := hOr.cell (i := 0) rfl
        have o1 := hOr.cell (i := 1) rfl
        have o2 := hOr.cell (i := 2) rfl
        have o3 := hOr.cell (i := 3) rfl
        have o4 := hOr.cell (i := 4) rfl
        have o5 := hOr.cell (i := 5) rfl
        have o6 := hOr.cell (i := 6) rfl
        have o7 := hOr.cell (i := 7) rfl
        have o8 := hOr.cell (i := 8) rfl
        have o9 := hOr.cell (i := 9) rfl
        have o10 := hOr.cell (i := 10) rfl
        have o11 := hOr.cell (i := 11) rfl
        have of := hOr.frozen
        have ol := hOr.lt
        have q1 : (k : Int) < (s.size : Int) := by omega
        have q2 : (0 : Int) ≤ (k : Int) := by omega
        have hpm := H5.out p (List.mem_of_getElem? hp)
        have HOO := Lib.hid hOr
        clear hp hBr hst hOr HO hRr
        rcases (by omega : p = 0 ∨ p = 1 ∨ p = 2 ∨ p = 3 ∨ p = 4 ∨ p = 5) with rfl | rfl | rfl | rfl | rfl | rfl
        · have HKL := Lib.hid hlt
          have e101 : ((s[k].toNat : Int) == 101) = true := by rw [hsk]; decide
          clear hsk hlt
          go_wp2_with fail
          go_roundw
          case rel => exact ⟨k + 1, by have := HKL.out; omega, by go_num, (by unfold Hid; rw [HST.out]; exact ((((HOO.out.set 1 _).set 2 _).set 3 _).set 4 _)), ((((HB.out.setCell (Nat.le_refl _) _).setCell (Nat.le_refl _) _).setCell (Nat.le_refl _) _).setCell (Nat.le_refl _) _)⟩
          case measure => have := HKL.out; simp [intOf]; omega
        · have HKL := Lib.hid hlt
          have e101 : ((s[k].toNat : Int) == 101) = false := by rw [hsk]; decide
          have e110 : ((s[k].toNat : Int) == 110) = true := by rw [hsk]; decide
          clear hsk hlt
          go_wp2_with fail
          go_roundw
          case rel => exact ⟨k + 1, by have := HKL.out; omega, by go_num, (by unfold Hid; rw [HST.out]; exact ((((HOO.out.set 5 _).set 6 _).set 7 _).set 8 _)), ((((HB.out.setCell (Nat.le_refl _) _).setCell (Nat.le_refl _) _).setCell (Nat.le_refl _) _).setCell (Nat.le_refl _) _)⟩
          case measure => have := HKL.out; simp [intOf]; omega
        · have HKL := Lib.hid hlt
          have e101 : ((s[k].toNat : Int) == 101) = false := by rw [hsk]; decide
          have e110 : ((s[k].toNat : Int) == 110) = false := by rw [hsk]; decide
          have e97 : ((s[k].toNat : Int) == 97) = true := by rw [hsk]; decide
          clear hsk hlt
          go_wp2_with fail
          go_roundw
          case rel => exact ⟨k + 1, by have := HKL.out; omega, by go_num, (by unfold Hid; rw [HST.out]; exact (((HOO.out.set 1 _).set 2 _).set 3 _)), (((HB.out.setCell (Nat.le_refl _) _).setCell (Nat.le_refl _) _).setCell (Nat.le_refl _) _)⟩
          case measure => have := HKL.out; simp [intOf]; omega
        · have HKL := Lib.hid hlt
          have e101 : ((s[k].toNat : Int) == 101) = false := by rw [hsk]; decide
          have e110 : ((s[k].toNat : Int) == 110) = false := by rw [hsk]; decide
          have e97 : ((s[k].toNat : Int) == 97) = false := by rw [hsk]; decide
          have e116 : ((s[k].toNat : Int) == 116) = true := by rw [hsk]; decide
          clear hsk hlt
          go_wp2_with fail
          go_roundw
          case rel => exact ⟨k + 1, by have := HKL.out; omega, by go_num, (by unfold Hid; rw [HST.out]; exact (HOO.out.set 9 _)), (HB.out.setCell (Nat.le_refl _) _)⟩
          case measure => have := HKL.out; simp [intOf]; omega
        · have HKL := Lib.hid hlt
          have e101 : ((s[k].toNat : Int) == 101) = false := by rw [hsk]; decide
          have e110 : ((s[k].toNat : Int) == 110) = false := by rw [hsk]; decide
          have e97 : ((s[k].toNat : Int) == 97) = false := by rw [hsk]; decide
          have e116 : ((s[k].toNat : Int) == 116) = false := by rw [hsk]; decide
          have e107 : ((s[k].toNat : Int) == 107) = true := by rw [hsk]; decide
          clear hsk hlt
          go_wp2_with fail
          go_roundw
          case rel => exact ⟨k + 1, by have := HKL.out; omega, by go_num, (by unfold Hid; rw [HST.out]; exact (HOO.out.set 10 _)), (HB.out.setCell (Nat.le_refl _) _)⟩
          case measure => have := HKL.out; simp [intOf]; omega
        · have HKL := Lib.hid hlt
          have e101 : ((s[k].toNat : Int) == 101) = false := by rw [hsk]; decide
          have e110 : ((s[k].toNat : Int) == 110) = false := by rw [hsk]; decide
          have e97 : ((s[k].toNat : Int) == 97) = false := by rw [hsk]; decide
          have e116 : ((s[k].toNat : Int) == 116) = false := by rw [hsk]; decide
          have e107 : ((s[k].toNat : Int) == 107) = false := by rw [hsk]; decide
          have e103 : ((s[k].toNat : Int) == 103) = true := by rw [hsk]; decide
          clear hsk hlt
          go_wp2_with fail
          go_roundw
          case rel => exact ⟨k + 1, by have := HKL.out; omega, by go_num, (by unfold Hid; rw [HST.out]; exact (HOO.out.set 11 _)), (HB.out.setCell (Nat.le_refl _) _)⟩
          case measure => have := HKL.out; simp [intOf]; omega
      · obtain rfl : k = L.length := by omega
        have q1 : ¬ (L.length : Int) < (s.size : Int) := by rw [HSZ.out]; omega
        have hOr := HO.out
        rw [List.take_length] at hOr
        have bwr := bww.out
        rw [HF.out] at hOr
        unfold clV at hOr
        have o0 := hOr.cell (i := 0) rfl
        have o1 := hOr.cell (i := 1) rfl
        have o2 := hOr.cell (i := 2) rfl
        have o3 := hOr.cell (i := 3) rfl
        have o4 := hOr.cell (i := 4) rfl
        have o5 := hOr.cell (i := 5) rfl
        have o6 := hOr.cell (i := 6) rfl
        have o7 := hOr.cell (i := 7) rfl
        have o8 := hOr.cell (i := 8) rfl
        have o9 := hOr.cell (i := 9) rfl
        have o10 := hOr.cell (i := 10) rfl
        have o11 := hOr.cell (i := 11) rfl
        have of := hOr.frozen
        have ol := hOr.lt
        have r0 := hRr.cell (i := 0) rfl
        have r1 := hRr.cell (i := 1) rfl
        have r2 := hRr.cell (i := 2) rfl
        have r3 := hRr.cell (i := 3) rfl
        have r4 := hRr.cell (i := 4) rfl
        have r5 := hRr.cell (i := 5) rfl
        have r6 := hRr.cell (i := 6) rfl
        have r7 := hRr.cell (i := 7) rfl
        have r8 := hRr.cell (i := 8) rfl
        have r9 := hRr.cell (i := 9) rfl
        have r10 := hRr.cell (i := 10) rfl
        have r11 := hRr.cell (i := 11) rfl
        have rf := hRr.frozen
        have rl := hRr.lt
        clear hOr hRr
        go_wp2_with fail
        refine bodyPost_named fun W9 h9 => ?_
        have e90 : W9.cell? ⟨w.heap.size + 1, 0, none⟩ = some (.int .i64 o.kind) := by subst h9; (first | (simp [go_sem, *]; done) | (simp (disch := first | omega | (simp; omega) | (simp [go_sem, *]; done)) [go_sem, World.cell?_setCell_far, World.cell?_alloc_past, *]; done))
        have e91 : W9.cell? ⟨w.heap.size + 1, 1, none⟩ = some (.bool o.en.ad.v6) := by subst h9; (first | (simp [go_sem, *]; done) | (simp (disch := first | omega | (simp; omega) | (simp [go_sem, *]; done)) [go_sem, World.cell?_setCell_far, World.cell?_alloc_past, *]; done))
        have e92 : W9.cell? ⟨w.heap.size + 1, 2, none⟩ = some (.int .u64 o.en.ad.hi) := by subst h9; (first | (simp [go_sem, *]; done) | (simp (disch := first | omega | (simp; omega) | (simp [go_sem, *]; done)) [go_sem, World.cell?_setCell_far, World.cell?_alloc_past, *]; done))
        have e93 : W9.cell? ⟨w.heap.size + 1, 3, none⟩ = some (.int .u64 o.en.ad.lo) := by subst h9; (first | (simp [go_sem, *]; done) | (simp (disch := first | omega | (simp; omega) | (simp [go_sem, *]; done)) [go_sem, World.cell?_setCell_far, World.cell?_alloc_past, *]; done))
        have e94 : W9.cell? ⟨w.heap.size + 1, 4, none⟩ = some (.int .i64 o.en.port) := by subst h9; (first | (simp [go_sem, *]; done) | (simp (disch := first | omega | (simp; omega) | (simp [go_sem, *]; done)) [go_sem, World.cell?_setCell_far, World.cell?_alloc_past, *]; done))
        have e95 : W9.cell? ⟨w.heap.size + 1, 5, none⟩ = some (.bool o.nt.ad.v6) := by subst h9; (first | (simp [go_sem, *]; done) | (simp (disch := first | omega | (simp; omega) | (simp [go_sem, *]; done)) [go_sem, World.cell?_setCell_far, World.cell?_alloc_past, *]; done))
        have e96 : W9.cell? ⟨w.heap.size + 1, 6, none⟩ = some (.int .u64 o.nt.ad.hi) := by subst h9; (first | (simp [go_sem, *]; done) | (simp (disch := first | omega | (simp; omega) | (simp [go_sem, *]; done)) [go_sem, World.cell?_setCell_far, World.cell?_alloc_past, *]; done))
        have e97 : W9.cell? ⟨w.heap.size + 1, 7, none⟩ = some (.int .u64 o.nt.ad.lo) := by subst h9; (first | (simp [go_sem, *]; done) | (simp (disch := first | omega | (simp; omega) | (simp [go_sem, *]; done)) [go_sem, World.cell?_setCell_far, World.cell?_alloc_past, *]; done))
        have e98 : W9.cell? ⟨w.heap.size + 1, 8, none⟩ = some (.int .i64 o.nt.bits) := by subst h9; (first | (simp [go_sem, *]; done) | (simp (disch := first | omega | (simp; omega) | (simp [go_sem, *]; done)) [go_sem, World.cell?_setCell_far, World.cell?_alloc_past, *]; done))
        have e99 : W9.cell? ⟨w.heap.size + 1, 9, none⟩ = some (.int .i64 o.now) := by subst h9; (first | (simp [go_sem, *]; done) | (simp (disch := first | omega | (simp; omega) | (simp [go_sem, *]; done)) [go_sem, World.cell?_setCell_far, World.cell?_alloc_past, *]; done))
        have e910 : W9.cell? ⟨w.heap.size + 1, 10, none⟩ = some (.int .i64 o.num) := by subst h9; (first | (simp [go_sem, *]; done) | (simp (disch := first | omega | (simp; omega) | (simp [go_sem, *]; done)) [go_sem, World.cell?_setCell_far, World.cell?_alloc_past, *]; done))
        have e911 : W9.cell? ⟨w.heap.size + 1, 11, none⟩ = some (.bool o.good) := by subst h9; (first | (simp [go_sem, *]; done) | (simp (disch := first | omega | (simp; omega) | (simp [go_sem, *]; done)) [go_sem, World.cell?_setCell_far, World.cell?_alloc_past, *]; done))
        have b9 : Below w.heap.size w W9 := by subst h9; (repeat (first | with_reducible assumption | with_reducible exact Below.refl _ _ | with_reducible refine Below.setCell ?_ (by first | omega | (simp; done) | (simp; omega)) _ | with_reducible refine Below.alloc ?_ (by first | omega | (simp; done) | (simp; omega)) _ | with_reducible refine Below.drew ?_ | (with_reducible refine Below.trans ?_ (Below.mono (by with_reducible assumption) (by first | omega | (simp; done) | (simp; omega)))) | (refine Below.trans ?_ (Below.mono (by assumption) (by first | omega | (simp; done) | (simp; omega))))))
        clear h9
        refine bodyPost_ret (v := .agg #[.int .i64 o.kind, .bool o.en.ad.v6, .int .u64 o.en.ad.hi, .int .u64 o.en.ad.lo, .int .i64 o.en.port, .bool o.nt.ad.v6, .int .u64 o.nt.ad.hi, .int .u64 o.nt.ad.lo, .int .i64 o.nt.bits, .int .i64 o.now, .int .i64 o.num, .bool o.good]) (by simp [results, Tryz.results10, go_sem, e90, e91, e92, e93, e94, e95, e96, e97, e98, e99, e910, e911]) rfl ⟨?_, b9⟩
        rfl
  · rw [clean_out hk]
    unfold zeroCl
    simp only [show ((0 : Nat) : Int) = 0 from rfl]
    rcases Int.lt_or_le c.kind 1 with h | h
    · go_enter Tryz.func10, Tryz.ntmps10
      go_wp2_with fail
      refine bodyPost_named fun W9 h9 => ?_
      have e90 : W9.cell? ⟨w.heap.size + 1, 0, none⟩ = some (.int .i64 0) := by subst h9; (first | (simp [go_sem, *]; done) | (simp (disch := first | omega | (simp; omega) | (simp [go_sem, *]; done)) [go_sem, World.cell?_setCell_far, World.cell?_alloc_past, *]; done))
      have e91 : W9.cell? ⟨w.heap.size + 1, 1, none⟩ = some (.bool false) := by subst h9; (first | (simp [go_sem, *]; done) | (simp (disch := first | omega | (simp; omega) | (simp [go_sem, *]; done)) [go_sem, World.cell?_setCell_far, World.cell?_alloc_past, *]; done))
      have e92 : W9.cell? ⟨w.heap.size + 1, 2, none⟩ = some (.int .u64 0) := by subst h9; (first | (simp [go_sem, *]; done) | (simp (disch := first | omega | (simp; omega) | (simp [go_sem, *]; done)) [go_sem, World.cell?_setCell_far, World.cell?_alloc_past, *]; done))
      have e93 : W9.cell? ⟨w.heap.size + 1, 3, none⟩ = some (.int .u64 0) := by subst h9; (first | (simp [go_sem, *]; done) | (simp (disch := first | omega | (simp; omega) | (simp [go_sem, *]; done)) [go_sem, World.cell?_setCell_far, World.cell?_alloc_past, *]; done))
      have e94 : W9.cell? ⟨w.heap.size + 1, 4, none⟩ = some (.int .i64 0) := by subst h9; (first | (simp [go_sem, *]; done) | (simp (disch := first | omega | (simp; omega) | (simp [go_sem, *]; done)) [go_sem, World.cell?_setCell_far, World.cell?_alloc_past, *]; done))
      have e95 : W9.cell? ⟨w.heap.size + 1, 5, none⟩ = some (.bool false) := by subst h9; (first | (simp [go_sem, *]; done) | (simp (disch := first | omega | (simp; omega) | (simp [go_sem, *]; done)) [go_sem, World.cell?_setCell_far, World.cell?_alloc_past, *]; done))
      have e96 : W9.cell? ⟨w.heap.size + 1, 6, none⟩ = some (.int .u64 0) := by subst h9; (first | (simp [go_sem, *]; done) | (simp (disch := first | omega | (simp; omega) | (simp [go_sem, *]; done)) [go_sem, World.cell?_setCell_far, World.cell?_alloc_past, *]; done))
      have e97 : W9.cell? ⟨w.heap.size + 1, 7, none⟩ = some (.int .u64 0) := by subst h9; (first | (simp [go_sem, *]; done) | (simp (disch := first | omega | (simp; omega) | (simp [go_sem, *]; done)) [go_sem, World.cell?_setCell_far, World.cell?_alloc_past, *]; done))
      have e98 : W9.cell? ⟨w.heap.size + 1, 8, none⟩ = some (.int .i64 0) := by subst h9; (first | (simp [go_sem, *]; done) | (simp (disch := first | omega | (simp; omega) | (simp [go_sem, *]; done)) [go_sem, World.cell?_setCell_far, World.cell?_alloc_past, *]; done))
      have e99 : W9.cell? ⟨w.heap.size + 1, 9, none⟩ = some (.int .i64 0) := by subst h9; (first | (simp [go_sem, *]; done) | (simp (disch := first | omega | (simp; omega) | (simp [go_sem, *]; done)) [go_sem, World.cell?_setCell_far, World.cell?_alloc_past, *]; done))
      have e910 : W9.cell? ⟨w.heap.size + 1, 10, none⟩ = some (.int .i64 0) := by subst h9; (first | (simp [go_sem, *]; done) | (simp (disch := first | omega | (simp; omega) | (simp [go_sem, *]; done)) [go_sem, World.cell?_setCell_far, World.cell?_alloc_past, *]; done))
      have e911 : W9.cell? ⟨w.heap.size + 1, 11, none⟩ = some (.bool false) := by subst h9; (first | (simp [go_sem, *]; done) | (simp (disch := first | omega | (simp; omega) | (simp [go_sem, *]; done)) [go_sem, World.cell?_setCell_far, World.cell?_alloc_past, *]; done))
      have b9 : Below w.heap.size w W9 := by subst h9; (repeat (first | with_reducible assumption | with_reducible exact Below.refl _ _ | with_reducible refine Below.setCell ?_ (by first | omega | (simp; done) | (simp; omega)) _ | with_reducible refine Below.alloc ?_ (by first | omega | (simp; done) | (simp; omega)) _ | with_reducible refine Below.drew ?_ | (with_reducible refine Below.trans ?_ (Below.mono (by with_reducible assumption) (by first | omega | (simp; done) | (simp; omega)))) | (refine Below.trans ?_ (Below.mono (by assumption) (by first | omega | (simp; done) | (simp; omega))))))
      clear h9
      refine bodyPost_ret (v := .agg #[.int .i64 0, .bool false, .int .u64 0, .int .u64 0, .int .i64 0, .bool false, .int .u64 0, .int .u64 0, .int .i64 0, .int .i64 0, .int .i64 0, .bool false]) (by simp [results, Tryz.results10, go_sem, e90, e91, e92, e93, e94, e95, e96, e97, e98, e99, e910, e911]) rfl ⟨?_, b9⟩
      rfl
    · have h2 : ¬ c.kind < 1 := by omega
      have h3 : 13 < c.kind := by omega
      go_enter Tryz.func10, Tryz.ntmps10
      go_wp2_with fail
      refine bodyPost_named fun W9 h9 => ?_
      have e90 : W9.cell? ⟨w.heap.size + 1, 0, none⟩ = some (.int .i64 0) := by subst h9; (first | (simp [go_sem, *]; done) | (simp (disch := first | omega | (simp; omega) | (simp [go_sem, *]; done)) [go_sem, World.cell?_setCell_far, World.cell?_alloc_past, *]; done))
      have e91 : W9.cell? ⟨w.heap.size + 1, 1, none⟩ = some (.bool false) := by subst h9; (first | (simp [go_sem, *]; done) | (simp (disch := first | omega | (simp; omega) | (simp [go_sem, *]; done)) [go_sem, World.cell?_setCell_far, World.cell?_alloc_past, *]; done))
      have e92 : W9.cell? ⟨w.heap.size + 1, 2, none⟩ = some (.int .u64 0) := by subst h9; (first | (simp [go_sem, *]; done) | (simp (disch := first | omega | (simp; omega) | (simp [go_sem, *]; done)) [go_sem, World.cell?_setCell_far, World.cell?_alloc_past, *]; done))
      have e93 : W9.cell? ⟨w.heap.size + 1, 3, none⟩ = some (.int .u64 0) := by subst h9; (first | (simp [go_sem, *]; done) | (simp (disch := first | omega | (simp; omega) | (simp [go_sem, *]; done)) [go_sem, World.cell?_setCell_far, World.cell?_alloc_past, *]; done))
      have e94 : W9.cell? ⟨w.heap.size + 1, 4, none⟩ = some (.int .i64 0) := by subst h9; (first | (simp [go_sem, *]; done) | (simp (disch := first | omega | (simp; omega) | (simp [go_sem, *]; done)) [go_sem, World.cell?_setCell_far, World.cell?_alloc_past, *]; done))
      have e95 : W9.cell? ⟨w.heap.size + 1, 5, none⟩ = some (.bool false) := by subst h9; (first | (simp [go_sem, *]; done) | (simp (disch := first | omega | (simp; omega) | (simp [go_sem, *]; done)) [go_sem, World.cell?_setCell_far, World.cell?_alloc_past, *]; done))
      have e96 : W9.cell? ⟨w.heap.size + 1, 6, none⟩ = some (.int .u64 0) := by subst h9; (first | (simp [go_sem, *]; done) | (simp (disch := first | omega | (simp; omega) | (simp [go_sem, *]; done)) [go_sem, World.cell?_setCell_far, World.cell?_alloc_past, *]; done))
      have e97 : W9.cell? ⟨w.heap.size + 1, 7, none⟩ = some (.int .u64 0) := by subst h9; (first | (simp [go_sem, *]; done) | (simp (disch := first | omega | (simp; omega) | (simp [go_sem, *]; done)) [go_sem, World.cell?_setCell_far, World.cell?_alloc_past, *]; done))
      have e98 : W9.cell? ⟨w.heap.size + 1, 8, none⟩ = some (.int .i64 0) := by subst h9; (first | (simp [go_sem, *]; done) | (simp (disch := first | omega | (simp; omega) | (simp [go_sem, *]; done)) [go_sem, World.cell?_setCell_far, World.cell?_alloc_past, *]; done))
      have e99 : W9.cell? ⟨w.heap.size + 1, 9, none⟩ = some (.int .i64 0) := by subst h9; (first | (simp [go_sem, *]; done) | (simp (disch := first | omega | (simp; omega) | (simp [go_sem, *]; done)) [go_sem, World.cell?_setCell_far, World.cell?_alloc_past, *]; done))
      have e910 : W9.cell? ⟨w.heap.size + 1, 10, none⟩ = some (.int .i64 0) := by subst h9; (first | (simp [go_sem, *]; done) | (simp (disch := first | omega | (simp; omega) | (simp [go_sem, *]; done)) [go_sem, World.cell?_setCell_far, World.cell?_alloc_past, *]; done))
      have e911 : W9.cell? ⟨w.heap.size + 1, 11, none⟩ = some (.bool false) := by subst h9; (first | (simp [go_sem, *]; done) | (simp (disch := first | omega | (simp; omega) | (simp [go_sem, *]; done)) [go_sem, World.cell?_setCell_far, World.cell?_alloc_past, *]; done))
      have b9 : Below w.heap.size w W9 := by subst h9; (repeat (first | with_reducible assumption | with_reducible exact Below.refl _ _ | with_reducible refine Below.setCell ?_ (by first | omega | (simp; done) | (simp; omega)) _ | with_reducible refine Below.alloc ?_ (by first | omega | (simp; done) | (simp; omega)) _ | with_reducible refine Below.drew ?_ | (with_reducible refine Below.trans ?_ (Below.mono (by with_reducible assumption) (by first | omega | (simp; done) | (simp; omega)))) | (refine Below.trans ?_ (Below.mono (by assumption) (by first | omega | (simp; done) | (simp; omega))))))
      clear h9
      refine bodyPost_ret (v := .agg #[.int .i64 0, .bool false, .int .u64 0, .int .u64 0, .int .i64 0, .bool false, .int .u64 0, .int .u64 0, .int .i64 0, .int .i64 0, .int .i64 0, .bool false]) (by simp [results, Tryz.results10, go_sem, e90, e91, e92, e93, e94, e95, e96, e97, e98, e99, e910, e911]) rfl ⟨?_, b9⟩
      rfl
end Go.Proofs.YtnohkfbapibmdaaGreat
