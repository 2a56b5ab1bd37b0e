/- Texts put together: RefCallD. No condition. -/
import Derived.Test.YtnohkfbapibmdaaGreatRkxixqffatb
import Derived.Test.YtnohkfbapibmdaaGreatRholvhijcvj
import Derived.Test.YtnohkfbapibmdaaGreatRozplksgbem
import Derived.Test.YtnohkfbapibmdaaGreatRxgtawsarsa
import Derived.Test.YtnohkfbapibmdaaGreatRyskaiocowm
import Derived.Test.YtnohkfbapibmdaaGreatRrycftbcloq
import Derived.Deep.DeepCutAuto
import Derived.Deep.CutBlock
namespace Go.Proofs.YtnohkfbapibmdaaGreat
open Go.RowKit
set_option linter.unusedSimpArgs false
set_option linter.unusedVariables false

theorem adBadL {s : List UInt8} (h : (adParse s).2 = false) : (adParse s).1 = ⟨false, 0, 0⟩ := adParse_bad s h
set_option maxRecDepth 100000 in
set_option maxHeartbeats 16000000 in
theorem refClParse_any (s : ByteArray) (w : World) (hs : s.size ≤ 1000000) : Calls Tryz.prog 6 #[.string s] w (GivesCl w (clParse s.data.toList)) := by
  unfold GivesCl clParse clKind
  have hne := splitL_ne 32 s.data.toList
  have HSP := Lib.hid (fun w => gives_at hne (refSplit_any s 32 w (by omega)))
  have hpl := fun x (hx : x ∈ splitL 32 s.data.toList) => splitL_part_len 32 s.data.toList x hx
  rw [len_data] at hpl
  generalize splitL 32 s.data.toList = S at *
  have hS0 := head_at hne
  generalize S.headD [] = hd at *
  have HK := Lib.hid (fun w => refKind_any hd w)
  have HS := Lib.hid hS0
  have hnl : 0 < S.length := List.length_pos_iff.2 hne
  have HPL := Lib.hid (fun x hx => Nat.le_trans (hpl x hx) hs)
  have HR0 : Hid (BlockIs (w.alloc (.cells #[.int .i64 0, .bool false, .int .u64 0, .int .u64 0, .int .i64 0, .bool false, .int .u64 0, .int .u64 0, .int .i64 0, .int .i64 0, .int .i64 0, .bool false] 30)) w.heap.size [.int .i64 0, .bool false, .int .u64 0, .int .u64 0, .int .i64 0, .bool false, .int .u64 0, .int .u64 0, .int .i64 0, .int .i64 0, .int .i64 0, .bool false] 30) := BlockIs.new w [.int .i64 0, .bool false, .int .u64 0, .int .u64 0, .int .i64 0, .bool false, .int .u64 0, .int .u64 0, .int .i64 0, .int .i64 0, .int .i64 0, .bool false] _
  have HSh := Lib.hid (fun W => refShape_any (kindOf hd) W)
  have HK13 := Lib.hid (kindOf_in hd)
  unfold shapeL at HSh
  have HSZ : Hid ((bs ((clParts (kindOf hd)).map letterOf)).size = (clParts (kindOf hd)).length) := by show _ = _; rw [bs_size, List.length_map]
  have HGT := Lib.hid (fun k p h hk => shape_get (L := clParts (kindOf hd)) (k := k) (p := p) h hk)
  generalize bs ((clParts (kindOf hd)).map letterOf) = sh at *
  have hL4 : (clParts (kindOf hd)).length ≤ 4 := by
    unfold clParts
    repeat' split
    all_goals decide
  clear hne hpl hs
  by_cases hk0 : kindOf hd = 0 ∨ S.length ≠ 1 + (clParts (kindOf hd)).length
  · rw [if_pos hk0]
    unfold zeroCl
    simp only [show ((0 : Nat) : Int) = 0 from rfl]
    generalize clParts (kindOf hd) = L at *
    generalize kindOf hd = K at *
    by_cases hkz : K = 0
    · subst hkz
      clear hk0
      generalize S.length = n at *
      go_enter Tryz.func6, Tryz.ntmps6
      go_wp2_with (first
        | (go_at_call 17; refine (HSP.out _).mono ?_; rintro e w1 ⟨g, cap, rfl, hcap, hg, hcell, b1⟩; have z1 := b1.size; (try simp at z1); have h0 := hcell 0 hd HS.out; have HR1 := Lib.hid (HR0.out.below b1); have q0 : (0 : Int) < (n : Int) := by omega)
        | (go_at_call 18; (with_reducible refine (HK.out _).mono ?_); rintro e w2 ⟨rfl, rfl⟩)
        | (go_at_call 19; (with_reducible refine (HSh.out _).mono ?_); rintro e w3 ⟨rfl, b3⟩; have z3 := b3.size; (try simp at z3); have hR3 := (HR1.out.alloc' _).below b3; have hO3 := (BlockIs.new w1 [.int .i64 0, .bool false, .int .u64 0, .int .u64 0, .int .i64 0, .bool false, .int .u64 0, .int .u64 0, .int .i64 0, .int .i64 0, .int .i64 0, .bool false] 30).below b3; have r0 := hR3.cell (i := 0) rfl; have r1 := hR3.cell (i := 1) rfl; have r2 := hR3.cell (i := 2) rfl; have r3 := hR3.cell (i := 3) rfl; have r4 := hR3.cell (i := 4) rfl; have r5 := hR3.cell (i := 5) rfl; have r6 := hR3.cell (i := 6) rfl; have r7 := hR3.cell (i := 7) rfl; have r8 := hR3.cell (i := 8) rfl; have r9 := hR3.cell (i := 9) rfl; have r10 := hR3.cell (i := 10) rfl; have r11 := hR3.cell (i := 11) rfl; have rf := hR3.frozen; have rl := hR3.lt; have oo0 := hO3.cell (i := 0) rfl; have oo1 := hO3.cell (i := 1) rfl; have oo2 := hO3.cell (i := 2) rfl; have oo3 := hO3.cell (i := 3) rfl; have oo4 := hO3.cell (i := 4) rfl; have oo5 := hO3.cell (i := 5) rfl; have oo6 := hO3.cell (i := 6) rfl; have oo7 := hO3.cell (i := 7) rfl; have oo8 := hO3.cell (i := 8) rfl; have oo9 := hO3.cell (i := 9) rfl; have oo10 := hO3.cell (i := 10) rfl; have oo11 := hO3.cell (i := 11) rfl; have oof := hO3.frozen; have ool := hO3.lt))
      refine bodyPost_named fun W9 h9 => ?_
      have e90 : W9.cell? ⟨w.heap.size, 0, none⟩ = some (.int .i64 0) := by subst h9; (first | (simp [go_sem, *]; done) | (simp (disch := first | omega | (simp; omega) | (simp [go_sem, *]; done)) [go_sem, World.cell?_setCell_far, World.cell?_alloc_past, *]; done))
      have e91 : W9.cell? ⟨w.heap.size, 1, none⟩ = some (.bool false) := by subst h9; (first | (simp [go_sem, *]; done) | (simp (disch := first | omega | (simp; omega) | (simp [go_sem, *]; done)) [go_sem, World.cell?_setCell_far, World.cell?_alloc_past, *]; done))
      have e92 : W9.cell? ⟨w.heap.size, 2, none⟩ = some (.int .u64 0) := by subst h9; (first | (simp [go_sem, *]; done) | (simp (disch := first | omega | (simp; omega) | (simp [go_sem, *]; done)) [go_sem, World.cell?_setCell_far, World.cell?_alloc_past, *]; done))
      have e93 : W9.cell? ⟨w.heap.size, 3, none⟩ = some (.int .u64 0) := by subst h9; (first | (simp [go_sem, *]; done) | (simp (disch := first | omega | (simp; omega) | (simp [go_sem, *]; done)) [go_sem, World.cell?_setCell_far, World.cell?_alloc_past, *]; done))
      have e94 : W9.cell? ⟨w.heap.size, 4, none⟩ = some (.int .i64 0) := by subst h9; (first | (simp [go_sem, *]; done) | (simp (disch := first | omega | (simp; omega) | (simp [go_sem, *]; done)) [go_sem, World.cell?_setCell_far, World.cell?_alloc_past, *]; done))
      have e95 : W9.cell? ⟨w.heap.size, 5, none⟩ = some (.bool false) := by subst h9; (first | (simp [go_sem, *]; done) | (simp (disch := first | omega | (simp; omega) | (simp [go_sem, *]; done)) [go_sem, World.cell?_setCell_far, World.cell?_alloc_past, *]; done))
      have e96 : W9.cell? ⟨w.heap.size, 6, none⟩ = some (.int .u64 0) := by subst h9; (first | (simp [go_sem, *]; done) | (simp (disch := first | omega | (simp; omega) | (simp [go_sem, *]; done)) [go_sem, World.cell?_setCell_far, World.cell?_alloc_past, *]; done))
      have e97 : W9.cell? ⟨w.heap.size, 7, none⟩ = some (.int .u64 0) := by subst h9; (first | (simp [go_sem, *]; done) | (simp (disch := first | omega | (simp; omega) | (simp [go_sem, *]; done)) [go_sem, World.cell?_setCell_far, World.cell?_alloc_past, *]; done))
      have e98 : W9.cell? ⟨w.heap.size, 8, none⟩ = some (.int .i64 0) := by subst h9; (first | (simp [go_sem, *]; done) | (simp (disch := first | omega | (simp; omega) | (simp [go_sem, *]; done)) [go_sem, World.cell?_setCell_far, World.cell?_alloc_past, *]; done))
      have e99 : W9.cell? ⟨w.heap.size, 9, none⟩ = some (.int .i64 0) := by subst h9; (first | (simp [go_sem, *]; done) | (simp (disch := first | omega | (simp; omega) | (simp [go_sem, *]; done)) [go_sem, World.cell?_setCell_far, World.cell?_alloc_past, *]; done))
      have e910 : W9.cell? ⟨w.heap.size, 10, none⟩ = some (.int .i64 0) := by subst h9; (first | (simp [go_sem, *]; done) | (simp (disch := first | omega | (simp; omega) | (simp [go_sem, *]; done)) [go_sem, World.cell?_setCell_far, World.cell?_alloc_past, *]; done))
      have e911 : W9.cell? ⟨w.heap.size, 11, none⟩ = some (.bool false) := by subst h9; (first | (simp [go_sem, *]; done) | (simp (disch := first | omega | (simp; omega) | (simp [go_sem, *]; done)) [go_sem, World.cell?_setCell_far, World.cell?_alloc_past, *]; done))
      have b9 : Below w.heap.size w W9 := by subst h9; (repeat (first | with_reducible assumption | with_reducible exact Below.refl _ _ | with_reducible refine Below.setCell ?_ (by first | omega | (simp; done) | (simp; omega)) _ | with_reducible refine Below.alloc ?_ (by first | omega | (simp; done) | (simp; omega)) _ | with_reducible refine Below.drew ?_ | (with_reducible refine Below.trans ?_ (Below.mono (by with_reducible assumption) (by first | omega | (simp; done) | (simp; omega)))) | (refine Below.trans ?_ (Below.mono (by assumption) (by first | omega | (simp; done) | (simp; omega))))))
      clear h9
      refine bodyPost_ret (v := .tuple #[.agg #[.int .i64 0, .bool false, .int .u64 0, .int .u64 0, .int .i64 0, .bool false, .int .u64 0, .int .u64 0, .int .i64 0, .int .i64 0, .int .i64 0, .bool false], .bool false]) (by simp [results, Tryz.results6, go_sem, e90, e91, e92, e93, e94, e95, e96, e97, e98, e99, e910, e911]) rfl ⟨?_, b9⟩
      rfl
    · have hlen : ¬ S.length = 1 + L.length := fun e => hk0.elim hkz (fun h => h e)
      have hkq : (K == 0) = false := beq_eq_false_iff_ne.2 hkz
      have HSZ2 := HSZ.out
      generalize S.length = n at *
      have hw1 : IntKind.i64.wrap ((sh.size : Int) + 1) = (sh.size : Int) + 1 := by rw [IntKind.wrap_i64]; omega
      have q1 : ((n : Int) != (sh.size : Int) + 1) = true := by rw [bne_iff_ne]; omega
      have q2 : ¬ (n : Int) = (sh.size : Int) + 1 := by omega
      clear hk0 hlen
      go_enter Tryz.func6, Tryz.ntmps6
      go_wp2_with (first
        | (go_at_call 17; refine (HSP.out _).mono ?_; rintro e w1 ⟨g, cap, rfl, hcap, hg, hcell, b1⟩; have z1 := b1.size; (try simp at z1); have h0 := hcell 0 hd HS.out; have HR1 := Lib.hid (HR0.out.below b1); have q0 : (0 : Int) < (n : Int) := by omega)
        | (go_at_call 18; (with_reducible refine (HK.out _).mono ?_); rintro e w2 ⟨rfl, rfl⟩)
        | (go_at_call 19; (with_reducible refine (HSh.out _).mono ?_); rintro e w3 ⟨rfl, b3⟩; have z3 := b3.size; (try simp at z3); have hR3 := (HR1.out.alloc' _).below b3; have hO3 := (BlockIs.new w1 [.int .i64 K, .bool false, .int .u64 0, .int .u64 0, .int .i64 0, .bool false, .int .u64 0, .int .u64 0, .int .i64 0, .int .i64 0, .int .i64 0, .bool false] 30).below b3; have r0 := hR3.cell (i := 0) rfl; have r1 := hR3.cell (i := 1) rfl; have r2 := hR3.cell (i := 2) rfl; have r3 := hR3.cell (i := 3) rfl; have r4 := hR3.cell (i := 4) rfl; have r5 := hR3.cell (i := 5) rfl; have r6 := hR3.cell (i := 6) rfl; have r7 := hR3.cell (i := 7) rfl; have r8 := hR3.cell (i := 8) rfl; have r9 := hR3.cell (i := 9) rfl; have r10 := hR3.cell (i := 10) rfl; have r11 := hR3.cell (i := 11) rfl; have rf := hR3.frozen; have rl := hR3.lt; have oo0 := hO3.cell (i := 0) rfl; have oo1 := hO3.cell (i := 1) rfl; have oo2 := hO3.cell (i := 2) rfl; have oo3 := hO3.cell (i := 3) rfl; have oo4 := hO3.cell (i := 4) rfl; have oo5 := hO3.cell (i := 5) rfl; have oo6 := hO3.cell (i := 6) rfl; have oo7 := hO3.cell (i := 7) rfl; have oo8 := hO3.cell (i := 8) rfl; have oo9 := hO3.cell (i := 9) rfl; have oo10 := hO3.cell (i := 10) rfl; have oo11 := hO3.cell (i := 11) rfl; have oof := hO3.frozen; have ool := hO3.lt))
      refine bodyPost_named fun W9 h9 => ?_
      have e90 : W9.cell? ⟨w.heap.size, 0, none⟩ = some (.int .i64 0) := by subst h9; (first | (simp [go_sem, *]; done) | (simp (disch := first | omega | (simp; omega) | (simp [go_sem, *]; done)) [go_sem, World.cell?_setCell_far, World.cell?_alloc_past, *]; done))
      have e91 : W9.cell? ⟨w.heap.size, 1, none⟩ = some (.bool false) := by subst h9; (first | (simp [go_sem, *]; done) | (simp (disch := first | omega | (simp; omega) | (simp [go_sem, *]; done)) [go_sem, World.cell?_setCell_far, World.cell?_alloc_past, *]; done))
      have e92 : W9.cell? ⟨w.heap.size, 2, none⟩ = some (.int .u64 0) := by subst h9; (first | (simp [go_sem, *]; done) | (simp (disch := first | omega | (simp; omega) | (simp [go_sem, *]; done)) [go_sem, World.cell?_setCell_far, World.cell?_alloc_past, *]; done))
      have e93 : W9.cell? ⟨w.heap.size, 3, none⟩ = some (.int .u64 0) := by subst h9; (first | (simp [go_sem, *]; done) | (simp (disch := first | omega | (simp; omega) | (simp [go_sem, *]; done)) [go_sem, World.cell?_setCell_far, World.cell?_alloc_past, *]; done))
      have e94 : W9.cell? ⟨w.heap.size, 4, none⟩ = some (.int .i64 0) := by subst h9; (first | (simp [go_sem, *]; done) | (simp (disch := first | omega | (simp; omega) | (simp [go_sem, *]; done)) [go_sem, World.cell?_setCell_far, World.cell?_alloc_past, *]; done))
      have e95 : W9.cell? ⟨w.heap.size, 5, none⟩ = some (.bool false) := by subst h9; (first | (simp [go_sem, *]; done) | (simp (disch := first | omega | (simp; omega) | (simp [go_sem, *]; done)) [go_sem, World.cell?_setCell_far, World.cell?_alloc_past, *]; done))
      have e96 : W9.cell? ⟨w.heap.size, 6, none⟩ = some (.int .u64 0) := by subst h9; (first | (simp [go_sem, *]; done) | (simp (disch := first | omega | (simp; omega) | (simp [go_sem, *]; done)) [go_sem, World.cell?_setCell_far, World.cell?_alloc_past, *]; done))
      have e97 : W9.cell? ⟨w.heap.size, 7, none⟩ = some (.int .u64 0) := by subst h9; (first | (simp [go_sem, *]; done) | (simp (disch := first | omega | (simp; omega) | (simp [go_sem, *]; done)) [go_sem, World.cell?_setCell_far, World.cell?_alloc_past, *]; done))
      have e98 : W9.cell? ⟨w.heap.size, 8, none⟩ = some (.int .i64 0) := by subst h9; (first | (simp [go_sem, *]; done) | (simp (disch := first | omega | (simp; omega) | (simp [go_sem, *]; done)) [go_sem, World.cell?_setCell_far, World.cell?_alloc_past, *]; done))
      have e99 : W9.cell? ⟨w.heap.size, 9, none⟩ = some (.int .i64 0) := by subst h9; (first | (simp [go_sem, *]; done) | (simp (disch := first | omega | (simp; omega) | (simp [go_sem, *]; done)) [go_sem, World.cell?_setCell_far, World.cell?_alloc_past, *]; done))
      have e910 : W9.cell? ⟨w.heap.size, 10, none⟩ = some (.int .i64 0) := by subst h9; (first | (simp [go_sem, *]; done) | (simp (disch := first | omega | (simp; omega) | (simp [go_sem, *]; done)) [go_sem, World.cell?_setCell_far, World.cell?_alloc_past, *]; done))
      have e911 : W9.cell? ⟨w.heap.size, 11, none⟩ = some (.bool false) := by subst h9; (first | (simp [go_sem, *]; done) | (simp (disch := first | omega | (simp; omega) | (simp [go_sem, *]; done)) [go_sem, World.cell?_setCell_far, World.cell?_alloc_past, *]; done))
      have b9 : Below w.heap.size w W9 := by subst h9; (repeat (first | with_reducible assumption | with_reducible exact Below.refl _ _ | with_reducible refine Below.setCell ?_ (by first | omega | (simp; done) | (simp; omega)) _ | with_reducible refine Below.alloc ?_ (by first | omega | (simp; done) | (simp; omega)) _ | with_reducible refine Below.drew ?_ | (with_reducible refine Below.trans ?_ (Below.mono (by with_reducible assumption) (by first | omega | (simp; done) | (simp; omega)))) | (refine Below.trans ?_ (Below.mono (by assumption) (by first | omega | (simp; done) | (simp; omega))))))
      clear h9
      refine bodyPost_ret (v := .tuple #[.agg #[.int .i64 0, .bool false, .int .u64 0, .int .u64 0, .int .i64 0, .bool false, .int .u64 0, .int .u64 0, .int .i64 0, .int .i64 0, .int .i64 0, .bool false], .bool false]) (by simp [results, Tryz.results6, go_sem, e90, e91, e92, e93, e94, e95, e96, e97, e98, e99, e910, e911]) rfl ⟨?_, b9⟩
      rfl
  · rw [if_neg hk0]
    have hkz : ¬ kindOf hd = 0 := fun e => hk0 (Or.inl e)
    have hlen : S.length = 1 + (clParts (kindOf hd)).length := Decidable.not_not.1 fun e => hk0 (Or.inr e)
    have hk5 : Hid (∀ p ∈ clParts (kindOf hd), p ≤ 5) := parts_le5 _
    have hkq : (kindOf hd == 0) = false := beq_eq_false_iff_ne.2 hkz
    obtain ⟨rr, hrr⟩ : ∃ r, clGo (zeroCl (kindOf hd)) (clParts (kindOf hd)) S.tail = r := ⟨_, rfl⟩
    rw [hrr]
    have HRR := Lib.hid hrr; clear hrr
    clear hk0
    generalize clParts (kindOf hd) = L at *
    generalize kindOf hd = K at *
    have HLEN := Lib.hid hlen
    have hlsz : S.length = sh.size + 1 := by rw [HSZ.out]; omega
    rw [hlsz] at HSP
    have hw1 : IntKind.i64.wrap ((sh.size : Int) + 1) = (sh.size : Int) + 1 := by have := HSZ.out; rw [IntKind.wrap_i64]; omega
    have q4 : sh.size ≤ 4 := by rw [HSZ.out]; exact hL4
    clear hlen hnl hlsz
    go_enter Tryz.func6, Tryz.ntmps6
    go_upto_region 7 with (first
      | (go_at_call 17; refine (HSP.out _).mono ?_; rintro e w1 ⟨g, cap, rfl, hcap, hg, hcell, b1⟩; have z1 := b1.size; (try simp at z1); have h0 := hcell 0 hd HS.out; have HR1 := Lib.hid (HR0.out.below b1); have HCELL := Lib.hid hcell; clear hcell; have q0 : (0 : Int) < (sh.size : Int) + 1 := by omega)
      | (go_at_call 18; (with_reducible refine (HK.out _).mono ?_); rintro e w2 ⟨rfl, rfl⟩)
      | (go_at_call 19; (with_reducible refine (HSh.out _).mono ?_); rintro e w3 ⟨rfl, b3⟩; have z3 := b3.size; (try simp at z3); have hR3 := (HR1.out.alloc' _).below b3; have hO3 := (BlockIs.new w1 (clV (zeroCl K)) 30).below b3; have HO3 := Lib.hid hO3; unfold clV zeroCl at hO3; have oo0 := hO3.cell (i := 0) rfl; have oo1 := hO3.cell (i := 1) rfl; have oo2 := hO3.cell (i := 2) rfl; have oo3 := hO3.cell (i := 3) rfl; have oo4 := hO3.cell (i := 4) rfl; have oo5 := hO3.cell (i := 5) rfl; have oo6 := hO3.cell (i := 6) rfl; have oo7 := hO3.cell (i := 7) rfl; have oo8 := hO3.cell (i := 8) rfl; have oo9 := hO3.cell (i := 9) rfl; have oo10 := hO3.cell (i := 10) rfl; have oo11 := hO3.cell (i := 11) rfl; have oof := hO3.frozen; have ool := hO3.lt))
    have hR : Hid (BlockIs w3 w.heap.size [.int .i64 0, .bool false, .int .u64 0, .int .u64 0, .int .i64 0, .bool false, .int .u64 0, .int .u64 0, .int .i64 0, .int .i64 0, .int .i64 0, .bool false] 30) := hR3
    have bwx : Hid (Below w.heap.size w w3) := by show Below _ _ _; (repeat (first | with_reducible assumption | with_reducible exact Below.refl _ _ | with_reducible refine Below.setCell ?_ (by first | omega | (simp; done) | (simp; omega)) _ | with_reducible refine Below.alloc ?_ (by first | omega | (simp; done) | (simp; omega)) _ | with_reducible refine Below.drew ?_ | (with_reducible refine Below.trans ?_ (Below.mono (by with_reducible assumption) (by first | omega | (simp; done) | (simp; omega)))) | (refine Below.trans ?_ (Below.mono (by assumption) (by first | omega | (simp; done) | (simp; omega))))))
    have bel13 : Below w1.heap.size w1 w3 := by (repeat (first | with_reducible assumption | with_reducible exact Below.refl _ _ | with_reducible refine Below.setCell ?_ (by first | omega | (simp; done) | (simp; omega)) _ | with_reducible refine Below.alloc ?_ (by first | omega | (simp; done) | (simp; omega)) _ | with_reducible refine Below.drew ?_ | (with_reducible refine Below.trans ?_ (Below.mono (by with_reducible assumption) (by first | omega | (simp; done) | (simp; omega)))) | (refine Below.trans ?_ (Below.mono (by assumption) (by first | omega | (simp; done) | (simp; omega))))))
    have hC : Hid (∀ j x, S[j]? = some x → w3.cell? ⟨g, j, none⟩ = some (.string (bs x))) := fun j x hj => (bel13.cell (p := ⟨g, j, none⟩) hg).trans (HCELL.out j x hj)
    have zO : w1.heap.size < w3.heap.size := by omega
    have l0O : w.heap.size < w1.heap.size := by omega
    have hO := HO3
    have HBX : Hid (Below w1.heap.size w3 w3) := Below.refl _ _
    clear HO3 hR3 hO3 b1 b3 bel13 HCELL HR0 HR1 HS HK h0 oo0 oo1 oo2 oo3 oo4 oo5 oo6 oo7 oo8 oo9 oo10 oo11 oof ool
    generalize w1.heap.size = O at *
    go_loopw [7] (fun i wr => ∃ (k : Nat) (u : Cl), k ≤ L.length ∧ i = .int .i64 k ∧ Hid (BlockIs wr O (clV u) 30) ∧ Hid (Below O w3 wr) ∧ Hid (clGo (zeroCl K) L S.tail = clGo u (L.drop k) (S.tail.drop k))) (fun i _ => L.length - (intOf i).toNat)
    case atStart => exact ⟨0, zeroCl K, Nat.zero_le _, rfl, hO.out, HBX.out, rfl⟩
    case round =>
      clear hO HBX
      obtain ⟨k, u, hk, rfl, HO, HB, HGO⟩ := hrel
      have zr := HB.out.size
      have bww : Hid (Below w.heap.size w wr) := bwx.out.trans (HB.out.mono (Nat.le_of_lt l0O))
      have HRr := Lib.hid (blk_belowC hR.out HB.out l0O)
      by_cases hlt : k < L.length
      · obtain ⟨p, hp⟩ : ∃ p, L[k]? = some p := ⟨_, List.getElem?_eq_getElem hlt⟩
        obtain ⟨t, ht⟩ : ∃ t, S[1 + k]? = some t := ⟨_, List.getElem?_eq_getElem (by have := HLEN.out; omega)⟩
        have s0 := (HB.out.cell (p := ⟨g, 1 + k, none⟩) hg).trans (hC.out _ _ ht)
        rw [Nat.add_comm 1 k] at s0
        have hkl : k < sh.size := by rw [HSZ.out]; exact hlt
        have hsk := HGT.out k p hp hkl
        have htl := HPL.out t (List.mem_of_getElem? ht)
        have hgo := go_at u (L := L) (T := S.tail) hp ((tail_at S k).trans ht)
        have hp5 := hk5.out p (List.mem_of_getElem? hp)
        have HDP := Lib.hid (fun W => refParse_any (bs t) 1099511627776 W (by rw [bs_size]; omega) (by omega) (by omega))
        rw [bs_data] at HDP
        have HOO := Lib.hid HO.out
        have q1 : (k : Int) < (sh.size : Int) := by omega
        have q2 : (0 : Int) ≤ (k : Int) := by omega
        have q3 : IntKind.i64.wrap ((k : Int) + 1) = (k : Int) + 1 := by rw [IntKind.wrap_i64]; omega
        have q5 : (k : Int) + 1 < (sh.size : Int) + 1 := by omega
        have q6 : (0 : Int) ≤ (k : Int) + 1 := by omega
        have q7 : ((k : Int) + 1).toNat = k + 1 := by omega
        have HKL := Lib.hid hlt
        have bwr := bww.out
        obtain ⟨r2, hr2⟩ : ∃ r, clRead u p t = r := ⟨_, rfl⟩
        rw [hr2] at hgo
        obtain ⟨u2, d⟩ := r2
        simp only at hgo
        have HRD := Lib.hid hr2; have HG2 := Lib.hid hgo; have HTL := Lib.hid htl
        have hdn : t = [] → (decParse t 1099511627776).2 = false := fun h => by rw [h]; exact decNone _
        have hRD2 : Hid (∀ h : p = 3 ∨ p = 4, d = (decParse t 1099511627776).2) := fun h => by
          have := congrArg Prod.snd hr2
          rcases h with rfl | rfl <;> exact this.symm
        have hRD1 : Hid (∀ h : p = 3 ∨ p = 4, u2 = if p = 3 then { u with now := (decParse t 1099511627776).1 } else { u with num := (decParse t 1099511627776).1 }) := fun h => by
          have := congrArg Prod.fst hr2
          rcases h with rfl | rfl <;> exact this.symm
        generalize decParse t 1099511627776 = pd at HDP hdn hRD2 hRD1
        obtain ⟨pn, okd⟩ := pd
        simp only at HDP hdn
        have HDN := Lib.hid hdn
        clear hp ht hr2 hgo htl hdn HO hlt
        go_upto_block 2 with (go_at_call 20; (with_reducible refine (HDP.out _).mono ?_); rintro e w4 ⟨rfl, b4⟩)
        have hO4 := HOO.out.below b4
        have z4 := b4.size
        have bO4 : Below O w3 w4 := HB.out.trans (b4.mono (Nat.le_of_lt (Nat.lt_of_lt_of_le zO zr)))
        have nO4 : O ≠ w4.heap.size := by omega
        have HO4 := Lib.hid hO4; have HBO4 := Lib.hid bO4
        clear b4 hO4 bO4 HOO HDP
        go_cut [59] (fun _ wx => Hid (BlockIs wx O (clV u2) 30) ∧ Hid (Below O w3 wx))
        case first =>
          have hO4 := HO4.out
          have bO4 := HBO4.out
          unfold clV at hO4
          have a0 := hO4.cell (i := 0) rfl
          have a1 := hO4.cell (i := 1) rfl
          have a2 := hO4.cell (i := 2) rfl
          have a3 := hO4.cell (i := 3) rfl
          have a4 := hO4.cell (i := 4) rfl
          have a5 := hO4.cell (i := 5) rfl
          have a6 := hO4.cell (i := 6) rfl
          have a7 := hO4.cell (i := 7) rfl
          have a8 := hO4.cell (i := 8) rfl
          have a9 := hO4.cell (i := 9) rfl
          have a10 := hO4.cell (i := 10) rfl
          have a11 := hO4.cell (i := 11) rfl
          have af := hO4.frozen
          have al := hO4.lt
          rcases (by omega : p = 0 ∨ p = 1 ∨ p = 2 ∨ p = 3 ∨ p = 4 ∨ p = 5) with rfl | rfl | rfl | rfl | rfl | rfl
          · have e101 : ((sh[k].toNat : Int) == 101) = true := by rw [hsk]; decide
            have e110 : ((sh[k].toNat : Int) == 110) = false := by rw [hsk]; decide
            have e97 : ((sh[k].toNat : Int) == 97) = false := by rw [hsk]; decide
            have e116 : ((sh[k].toNat : Int) == 116) = false := by rw [hsk]; decide
            have e107 : ((sh[k].toNat : Int) == 107) = false := by rw [hsk]; decide
            have e103 : ((sh[k].toNat : Int) == 103) = false := by rw [hsk]; decide
            clear hsk
            have hu := congrArg Prod.fst HRD.out
            simp only [clRead] at hu
            have HE := Lib.hid (fun W => refEnParse_any (bs t) W (by rw [bs_size]; have := HTL.out; omega))
            rw [bs_data] at HE
            unfold GivesEn at HE
            generalize enParse t = pe at HE hu
            obtain ⟨pe, ok⟩ := pe
            simp only at HE hu
            subst hu
            clear HRD HG2 hRD2 hRD1
            go_wp2_with (go_at_call 21; (with_reducible refine (HE.out _).mono ?_); rintro e w5 ⟨rfl, b5⟩; have hO5 := hO4.below b5; have z5 := b5.size; have c0 := hO5.cell (i := 0) rfl; have c1 := hO5.cell (i := 1) rfl; have c2 := hO5.cell (i := 2) rfl; have c3 := hO5.cell (i := 3) rfl; have c4 := hO5.cell (i := 4) rfl; have c5 := hO5.cell (i := 5) rfl; have c6 := hO5.cell (i := 6) rfl; have c7 := hO5.cell (i := 7) rfl; have c8 := hO5.cell (i := 8) rfl; have c9 := hO5.cell (i := 9) rfl; have c10 := hO5.cell (i := 10) rfl; have c11 := hO5.cell (i := 11) rfl; have cf := hO5.frozen; have cl := hO5.lt; have bO5 := bO4.trans (b5.mono (by omega)); have nO5 : O ≠ w5.heap.size := (by omega))
            go_meet
            exact ⟨(by unfold Hid; ((refine Reach.get ?_); (repeat (first | with_reducible refine reach_set ?_ | with_reducible refine reach_other (by first | assumption | omega) ?_ | with_reducible refine reach_alloc ?_ | with_reducible refine reach_drew ?_)); exact reach_at (hO5) rfl)), (by unfold Hid; (repeat (first | with_reducible assumption | with_reducible exact Below.refl _ _ | with_reducible refine Below.setCell ?_ (by first | omega | (simp; done) | (simp; omega)) _ | with_reducible refine Below.alloc ?_ (by first | omega | (simp; done) | (simp; omega)) _ | with_reducible refine Below.drew ?_ | (with_reducible refine Below.trans ?_ (Below.mono (by with_reducible assumption) (by first | omega | (simp; done) | (simp; omega)))) | (refine Below.trans ?_ (Below.mono (by assumption) (by first | omega | (simp; done) | (simp; omega)))))))⟩
          · have e101 : ((sh[k].toNat : Int) == 101) = false := by rw [hsk]; decide
            have e110 : ((sh[k].toNat : Int) == 110) = true := by rw [hsk]; decide
            have e97 : ((sh[k].toNat : Int) == 97) = false := by rw [hsk]; decide
            have e116 : ((sh[k].toNat : Int) == 116) = false := by rw [hsk]; decide
            have e107 : ((sh[k].toNat : Int) == 107) = false := by rw [hsk]; decide
            have e103 : ((sh[k].toNat : Int) == 103) = false := by rw [hsk]; decide
            clear hsk
            have hu := congrArg Prod.fst HRD.out
            simp only [clRead] at hu
            have HE := Lib.hid (fun W => refNtParse_any (bs t) W (by rw [bs_size]; have := HTL.out; omega))
            rw [bs_data] at HE
            unfold GivesNt at HE
            have hbd := fun h => ntBad (s := t) h
            generalize ntParse t = pe at HE hu hbd
            obtain ⟨pe, ok⟩ := pe
            simp only at HE hu hbd
            cases ok with
            | false =>
              rw [if_neg (by simp)] at hu
              have hb2 := hbd rfl
              obtain ⟨pa, pb⟩ := pe
              simp only at hb2
              subst hb2
              simp only [show ((0 : Nat) : Int) = 0 from rfl] at HE
              subst hu
              clear hbd HRD HG2 hRD2 hRD1
              go_wp2_with (go_at_call 22; (with_reducible refine (HE.out _).mono ?_); rintro e w5 ⟨rfl, b5⟩; have hO5 := hO4.below b5; have z5 := b5.size; have c0 := hO5.cell (i := 0) rfl; have c1 := hO5.cell (i := 1) rfl; have c2 := hO5.cell (i := 2) rfl; have c3 := hO5.cell (i := 3) rfl; have c4 := hO5.cell (i := 4) rfl; have c5 := hO5.cell (i := 5) rfl; have c6 := hO5.cell (i := 6) rfl; have c7 := hO5.cell (i := 7) rfl; have c8 := hO5.cell (i := 8) rfl; have c9 := hO5.cell (i := 9) rfl; have c10 := hO5.cell (i := 10) rfl; have c11 := hO5.cell (i := 11) rfl; have cf := hO5.frozen; have cl := hO5.lt; have bO5 := bO4.trans (b5.mono (by omega)); have nO5 : O ≠ w5.heap.size := (by omega))
              go_meet
              exact ⟨(by unfold Hid; ((refine Reach.get ?_); (repeat (first | with_reducible refine reach_set ?_ | with_reducible refine reach_other (by first | assumption | omega) ?_ | with_reducible refine reach_alloc ?_ | with_reducible refine reach_drew ?_)); exact reach_at (hO5) rfl)), (by unfold Hid; (repeat (first | with_reducible assumption | with_reducible exact Below.refl _ _ | with_reducible refine Below.setCell ?_ (by first | omega | (simp; done) | (simp; omega)) _ | with_reducible refine Below.alloc ?_ (by first | omega | (simp; done) | (simp; omega)) _ | with_reducible refine Below.drew ?_ | (with_reducible refine Below.trans ?_ (Below.mono (by with_reducible assumption) (by first | omega | (simp; done) | (simp; omega)))) | (refine Below.trans ?_ (Below.mono (by assumption) (by first | omega | (simp; done) | (simp; omega)))))))⟩
            | true =>
              rw [if_pos rfl] at hu
              subst hu
              clear hbd HRD HG2 hRD2 hRD1
              go_wp2_with (go_at_call 22; (with_reducible refine (HE.out _).mono ?_); rintro e w5 ⟨rfl, b5⟩; have hO5 := hO4.below b5; have z5 := b5.size; have c0 := hO5.cell (i := 0) rfl; have c1 := hO5.cell (i := 1) rfl; have c2 := hO5.cell (i := 2) rfl; have c3 := hO5.cell (i := 3) rfl; have c4 := hO5.cell (i := 4) rfl; have c5 := hO5.cell (i := 5) rfl; have c6 := hO5.cell (i := 6) rfl; have c7 := hO5.cell (i := 7) rfl; have c8 := hO5.cell (i := 8) rfl; have c9 := hO5.cell (i := 9) rfl; have c10 := hO5.cell (i := 10) rfl; have c11 := hO5.cell (i := 11) rfl; have cf := hO5.frozen; have cl := hO5.lt; have bO5 := bO4.trans (b5.mono (by omega)); have nO5 : O ≠ w5.heap.size := (by omega))
              go_meet
              exact ⟨(by unfold Hid; ((refine Reach.get ?_); (repeat (first | with_reducible refine reach_set ?_ | with_reducible refine reach_other (by first | assumption | omega) ?_ | with_reducible refine reach_alloc ?_ | with_reducible refine reach_drew ?_)); exact reach_at (hO5) rfl)), (by unfold Hid; (repeat (first | with_reducible assumption | with_reducible exact Below.refl _ _ | with_reducible refine Below.setCell ?_ (by first | omega | (simp; done) | (simp; omega)) _ | with_reducible refine Below.alloc ?_ (by first | omega | (simp; done) | (simp; omega)) _ | with_reducible refine Below.drew ?_ | (with_reducible refine Below.trans ?_ (Below.mono (by with_reducible assumption) (by first | omega | (simp; done) | (simp; omega)))) | (refine Below.trans ?_ (Below.mono (by assumption) (by first | omega | (simp; done) | (simp; omega)))))))⟩
          · have e101 : ((sh[k].toNat : Int) == 101) = false := by rw [hsk]; decide
            have e110 : ((sh[k].toNat : Int) == 110) = false := by rw [hsk]; decide
            have e97 : ((sh[k].toNat : Int) == 97) = true := by rw [hsk]; decide
            have e116 : ((sh[k].toNat : Int) == 116) = false := by rw [hsk]; decide
            have e107 : ((sh[k].toNat : Int) == 107) = false := by rw [hsk]; decide
            have e103 : ((sh[k].toNat : Int) == 103) = false := by rw [hsk]; decide
            clear hsk
            have hu := congrArg Prod.fst HRD.out
            simp only [clRead] at hu
            have HE := Lib.hid (fun W => refAdParse_any (bs t) W (by rw [bs_size]; have := HTL.out; omega))
            rw [bs_data] at HE
            unfold GivesAd at HE
            have hbd := fun h => adBadL (s := t) h
            generalize adParse t = pe at HE hu hbd
            obtain ⟨pe, ok⟩ := pe
            simp only at HE hu hbd
            cases ok with
            | false =>
              rw [if_neg (by simp)] at hu
              have hb2 := hbd rfl
              subst hb2
              simp only [show ((0 : Nat) : Int) = 0 from rfl] at HE
              subst hu
              clear hbd HRD HG2 hRD2 hRD1
              go_wp2_with (go_at_call 23; (with_reducible refine (HE.out _).mono ?_); rintro e w5 ⟨rfl, b5⟩; have hO5 := hO4.below b5; have z5 := b5.size; have c0 := hO5.cell (i := 0) rfl; have c1 := hO5.cell (i := 1) rfl; have c2 := hO5.cell (i := 2) rfl; have c3 := hO5.cell (i := 3) rfl; have c4 := hO5.cell (i := 4) rfl; have c5 := hO5.cell (i := 5) rfl; have c6 := hO5.cell (i := 6) rfl; have c7 := hO5.cell (i := 7) rfl; have c8 := hO5.cell (i := 8) rfl; have c9 := hO5.cell (i := 9) rfl; have c10 := hO5.cell (i := 10) rfl; have c11 := hO5.cell (i := 11) rfl; have cf := hO5.frozen; have cl := hO5.lt; have bO5 := bO4.trans (b5.mono (by omega)); have nO5 : O ≠ w5.heap.size := (by omega))
              go_meet
              exact ⟨(by unfold Hid; ((refine Reach.get ?_); (repeat (first | with_reducible refine reach_set ?_ | with_reducible refine reach_other (by first | assumption | omega) ?_ | with_reducible refine reach_alloc ?_ | with_reducible refine reach_drew ?_)); exact reach_at (hO5) rfl)), (by unfold Hid; (repeat (first | with_reducible assumption | with_reducible exact Below.refl _ _ | with_reducible refine Below.setCell ?_ (by first | omega | (simp; done) | (simp; omega)) _ | with_reducible refine Below.alloc ?_ (by first | omega | (simp; done) | (simp; omega)) _ | with_reducible refine Below.drew ?_ | (with_reducible refine Below.trans ?_ (Below.mono (by with_reducible assumption) (by first | omega | (simp; done) | (simp; omega)))) | (refine Below.trans ?_ (Below.mono (by assumption) (by first | omega | (simp; done) | (simp; omega)))))))⟩
            | true =>
              rw [if_pos rfl] at hu
              subst hu
              clear hbd HRD HG2 hRD2 hRD1
              go_wp2_with (go_at_call 23; (with_reducible refine (HE.out _).mono ?_); rintro e w5 ⟨rfl, b5⟩; have hO5 := hO4.below b5; have z5 := b5.size; have c0 := hO5.cell (i := 0) rfl; have c1 := hO5.cell (i := 1) rfl; have c2 := hO5.cell (i := 2) rfl; have c3 := hO5.cell (i := 3) rfl; have c4 := hO5.cell (i := 4) rfl; have c5 := hO5.cell (i := 5) rfl; have c6 := hO5.cell (i := 6) rfl; have c7 := hO5.cell (i := 7) rfl; have c8 := hO5.cell (i := 8) rfl; have c9 := hO5.cell (i := 9) rfl; have c10 := hO5.cell (i := 10) rfl; have c11 := hO5.cell (i := 11) rfl; have cf := hO5.frozen; have cl := hO5.lt; have bO5 := bO4.trans (b5.mono (by omega)); have nO5 : O ≠ w5.heap.size := (by omega))
              go_meet
              exact ⟨(by unfold Hid; ((refine Reach.get ?_); (repeat (first | with_reducible refine reach_set ?_ | with_reducible refine reach_other (by first | assumption | omega) ?_ | with_reducible refine reach_alloc ?_ | with_reducible refine reach_drew ?_)); exact reach_at (hO5) rfl)), (by unfold Hid; (repeat (first | with_reducible assumption | with_reducible exact Below.refl _ _ | with_reducible refine Below.setCell ?_ (by first | omega | (simp; done) | (simp; omega)) _ | with_reducible refine Below.alloc ?_ (by first | omega | (simp; done) | (simp; omega)) _ | with_reducible refine Below.drew ?_ | (with_reducible refine Below.trans ?_ (Below.mono (by with_reducible assumption) (by first | omega | (simp; done) | (simp; omega)))) | (refine Below.trans ?_ (Below.mono (by assumption) (by first | omega | (simp; done) | (simp; omega)))))))⟩
          · have e101 : ((sh[k].toNat : Int) == 101) = false := by rw [hsk]; decide
            have e110 : ((sh[k].toNat : Int) == 110) = false := by rw [hsk]; decide
            have e97 : ((sh[k].toNat : Int) == 97) = false := by rw [hsk]; decide
            have e116 : ((sh[k].toNat : Int) == 116) = true := by rw [hsk]; decide
            have e107 : ((sh[k].toNat : Int) == 107) = false := by rw [hsk]; decide
            have e103 : ((sh[k].toNat : Int) == 103) = false := by rw [hsk]; decide
            clear hsk
            have hu := hRD1.out (by omega)
            rw [if_pos rfl] at hu
            try simp only at hu
            subst hu
            clear HRD HG2 hRD2 hRD1
            go_wp2_with fail
            go_meet
            exact ⟨(by unfold Hid; ((refine Reach.get ?_); (repeat (first | with_reducible refine reach_set ?_ | with_reducible refine reach_other (by first | assumption | omega) ?_ | with_reducible refine reach_alloc ?_ | with_reducible refine reach_drew ?_)); exact reach_at (hO4) rfl)), (by unfold Hid; (repeat (first | with_reducible assumption | with_reducible exact Below.refl _ _ | with_reducible refine Below.setCell ?_ (by first | omega | (simp; done) | (simp; omega)) _ | with_reducible refine Below.alloc ?_ (by first | omega | (simp; done) | (simp; omega)) _ | with_reducible refine Below.drew ?_ | (with_reducible refine Below.trans ?_ (Below.mono (by with_reducible assumption) (by first | omega | (simp; done) | (simp; omega)))) | (refine Below.trans ?_ (Below.mono (by assumption) (by first | omega | (simp; done) | (simp; omega)))))))⟩
          · have e101 : ((sh[k].toNat : Int) == 101) = false := by rw [hsk]; decide
            have e110 : ((sh[k].toNat : Int) == 110) = false := by rw [hsk]; decide
            have e97 : ((sh[k].toNat : Int) == 97) = false := by rw [hsk]; decide
            have e116 : ((sh[k].toNat : Int) == 116) = false := by rw [hsk]; decide
            have e107 : ((sh[k].toNat : Int) == 107) = true := by rw [hsk]; decide
            have e103 : ((sh[k].toNat : Int) == 103) = false := by rw [hsk]; decide
            clear hsk
            have hu := hRD1.out (by omega)
            rw [if_neg (by omega)] at hu
            try simp only at hu
            subst hu
            clear HRD HG2 hRD2 hRD1
            go_wp2_with fail
            go_meet
            exact ⟨(by unfold Hid; ((refine Reach.get ?_); (repeat (first | with_reducible refine reach_set ?_ | with_reducible refine reach_other (by first | assumption | omega) ?_ | with_reducible refine reach_alloc ?_ | with_reducible refine reach_drew ?_)); exact reach_at (hO4) rfl)), (by unfold Hid; (repeat (first | with_reducible assumption | with_reducible exact Below.refl _ _ | with_reducible refine Below.setCell ?_ (by first | omega | (simp; done) | (simp; omega)) _ | with_reducible refine Below.alloc ?_ (by first | omega | (simp; done) | (simp; omega)) _ | with_reducible refine Below.drew ?_ | (with_reducible refine Below.trans ?_ (Below.mono (by with_reducible assumption) (by first | omega | (simp; done) | (simp; omega)))) | (refine Below.trans ?_ (Below.mono (by assumption) (by first | omega | (simp; done) | (simp; omega)))))))⟩
          · have e101 : ((sh[k].toNat : Int) == 101) = false := by rw [hsk]; decide
            have e110 : ((sh[k].toNat : Int) == 110) = false := by rw [hsk]; decide
            have e97 : ((sh[k].toNat : Int) == 97) = false := by rw [hsk]; decide
            have e116 : ((sh[k].toNat : Int) == 116) = false := by rw [hsk]; decide
            have e107 : ((sh[k].toNat : Int) == 107) = false := by rw [hsk]; decide
            have e103 : ((sh[k].toNat : Int) == 103) = true := by rw [hsk]; decide
            clear hsk
            have hu := congrArg Prod.fst HRD.out
            simp only [clRead] at hu
            subst hu
            clear HRD HG2 hRD2 hRD1
            have tg : ((bs t).toList == [103, 111, 111, 100]) = decide (t = goodL) := by rw [bs_toL]; unfold goodL; exact Bool.eq_iff_iff.2 (by simp)
            generalize decide (t = goodL) = dg at *
            go_wp2_with fail
            go_meet
            exact ⟨(by unfold Hid; ((refine Reach.get ?_); (repeat (first | with_reducible refine reach_set ?_ | with_reducible refine reach_other (by first | assumption | omega) ?_ | with_reducible refine reach_alloc ?_ | with_reducible refine reach_drew ?_)); exact reach_at (hO4) rfl)), (by unfold Hid; (repeat (first | with_reducible assumption | with_reducible exact Below.refl _ _ | with_reducible refine Below.setCell ?_ (by first | omega | (simp; done) | (simp; omega)) _ | with_reducible refine Below.alloc ?_ (by first | omega | (simp; done) | (simp; omega)) _ | with_reducible refine Below.drew ?_ | (with_reducible refine Below.trans ?_ (Below.mono (by with_reducible assumption) (by first | omega | (simp; done) | (simp; omega)))) | (refine Below.trans ?_ (Below.mono (by assumption) (by first | omega | (simp; done) | (simp; omega)))))))⟩
        case rest =>
        obtain ⟨HO9, HB9⟩ := hcut
        clear HO4 HBO4 nO4 z4
        go_at_K
        have HR9 := Lib.hid (blk_belowC hR.out HB9.out l0O)
        have bww9 : Hid (Below w.heap.size w wc) := bwx.out.trans (HB9.out.mono (Nat.le_of_lt l0O))
        go_upto_region 31 with fail
        go_cut [17] (fun s wx => s = .bool (decide (p = 3 ∨ p = 4)) ∧ wx = wc)
        case first =>
          rcases (by omega : p = 0 ∨ p = 1 ∨ p = 2 ∨ p = 3 ∨ p = 4 ∨ p = 5) with rfl | rfl | rfl | rfl | rfl | rfl
          · have e101 : ((sh[k].toNat : Int) == 101) = true := by rw [hsk]; decide
            have e110 : ((sh[k].toNat : Int) == 110) = false := by rw [hsk]; decide
            have e97 : ((sh[k].toNat : Int) == 97) = false := by rw [hsk]; decide
            have e116 : ((sh[k].toNat : Int) == 116) = false := by rw [hsk]; decide
            have e107 : ((sh[k].toNat : Int) == 107) = false := by rw [hsk]; decide
            have e103 : ((sh[k].toNat : Int) == 103) = false := by rw [hsk]; decide
            clear hsk
            go_wp2_with fail
            all_goals (go_meet; exact ⟨rfl, rfl⟩)
          · have e101 : ((sh[k].toNat : Int) == 101) = false := by rw [hsk]; decide
            have e110 : ((sh[k].toNat : Int) == 110) = true := by rw [hsk]; decide
            have e97 : ((sh[k].toNat : Int) == 97) = false := by rw [hsk]; decide
            have e116 : ((sh[k].toNat : Int) == 116) = false := by rw [hsk]; decide
            have e107 : ((sh[k].toNat : Int) == 107) = false := by rw [hsk]; decide
            have e103 : ((sh[k].toNat : Int) == 103) = false := by rw [hsk]; decide
            clear hsk
            go_wp2_with fail
            all_goals (go_meet; exact ⟨rfl, rfl⟩)
          · have e101 : ((sh[k].toNat : Int) == 101) = false := by rw [hsk]; decide
            have e110 : ((sh[k].toNat : Int) == 110) = false := by rw [hsk]; decide
            have e97 : ((sh[k].toNat : Int) == 97) = true := by rw [hsk]; decide
            have e116 : ((sh[k].toNat : Int) == 116) = false := by rw [hsk]; decide
            have e107 : ((sh[k].toNat : Int) == 107) = false := by rw [hsk]; decide
            have e103 : ((sh[k].toNat : Int) == 103) = false := by rw [hsk]; decide
            clear hsk
            go_wp2_with fail
            all_goals (go_meet; exact ⟨rfl, rfl⟩)
          · have e101 : ((sh[k].toNat : Int) == 101) = false := by rw [hsk]; decide
            have e110 : ((sh[k].toNat : Int) == 110) = false := by rw [hsk]; decide
            have e97 : ((sh[k].toNat : Int) == 97) = false := by rw [hsk]; decide
            have e116 : ((sh[k].toNat : Int) == 116) = true := by rw [hsk]; decide
            have e107 : ((sh[k].toNat : Int) == 107) = false := by rw [hsk]; decide
            have e103 : ((sh[k].toNat : Int) == 103) = false := by rw [hsk]; decide
            clear hsk
            go_wp2_with fail
            all_goals (go_meet; exact ⟨rfl, rfl⟩)
          · have e101 : ((sh[k].toNat : Int) == 101) = false := by rw [hsk]; decide
            have e110 : ((sh[k].toNat : Int) == 110) = false := by rw [hsk]; decide
            have e97 : ((sh[k].toNat : Int) == 97) = false := by rw [hsk]; decide
            have e116 : ((sh[k].toNat : Int) == 116) = false := by rw [hsk]; decide
            have e107 : ((sh[k].toNat : Int) == 107) = true := by rw [hsk]; decide
            have e103 : ((sh[k].toNat : Int) == 103) = false := by rw [hsk]; decide
            clear hsk
            go_wp2_with fail
            all_goals (go_meet; exact ⟨rfl, rfl⟩)
          · have e101 : ((sh[k].toNat : Int) == 101) = false := by rw [hsk]; decide
            have e110 : ((sh[k].toNat : Int) == 110) = false := by rw [hsk]; decide
            have e97 : ((sh[k].toNat : Int) == 97) = false := by rw [hsk]; decide
            have e116 : ((sh[k].toNat : Int) == 116) = false := by rw [hsk]; decide
            have e107 : ((sh[k].toNat : Int) == 107) = false := by rw [hsk]; decide
            have e103 : ((sh[k].toNat : Int) == 103) = true := by rw [hsk]; decide
            clear hsk
            go_wp2_with fail
            all_goals (go_meet; exact ⟨rfl, rfl⟩)
        case rest =>
        obtain ⟨rfl, rfl⟩ := hcut
        go_at_K
        go_upto_region 32 with fail
        go_cut [141] (fun s wx => s = .bool (!d) ∧ wx = wc)
        case first =>
          rcases (by omega : p = 0 ∨ p = 1 ∨ p = 2 ∨ p = 3 ∨ p = 4 ∨ p = 5) with rfl | rfl | rfl | rfl | rfl | rfl
          · have e101 : ((sh[k].toNat : Int) == 101) = true := by rw [hsk]; decide
            have e110 : ((sh[k].toNat : Int) == 110) = false := by rw [hsk]; decide
            have e97 : ((sh[k].toNat : Int) == 97) = false := by rw [hsk]; decide
            have e116 : ((sh[k].toNat : Int) == 116) = false := by rw [hsk]; decide
            have e107 : ((sh[k].toNat : Int) == 107) = false := by rw [hsk]; decide
            have e103 : ((sh[k].toNat : Int) == 103) = false := by rw [hsk]; decide
            clear hsk
            have hd2 := congrArg Prod.snd HRD.out
            simp only [clRead] at hd2
            subst hd2
            clear HRD HG2 hRD2 hRD1
            by_cases hz : t = []
            · have HDZ := Lib.hid (show decide (t ≠ []) = false from decide_eq_false (fun h => h hz))
              have g1 : ((bs t).toList == []) = true := by rw [bs_toL]; simpa using hz
              have g2 : (bs t).toList = [] := by rw [bs_toL]; exact hz
              have g3 : ((bs t).toList).isEmpty = true := by rw [bs_toL]; simpa using hz
              clear hz
              go_wp2_with fail
              all_goals (go_meet; exact ⟨by rw [HDZ.out]; rfl, rfl⟩)
            · have HDZ := Lib.hid (show decide (t ≠ []) = true from decide_eq_true hz)
              have g1 : ((bs t).toList == []) = false := by rw [bs_toL]; simpa using hz
              have g2 : ¬ (bs t).toList = [] := by rw [bs_toL]; exact hz
              have g3 : ((bs t).toList).isEmpty = false := by rw [bs_toL]; simpa using hz
              clear hz
              go_wp2_with fail
              all_goals (go_meet; exact ⟨by rw [HDZ.out]; rfl, rfl⟩)
          · have e101 : ((sh[k].toNat : Int) == 101) = false := by rw [hsk]; decide
            have e110 : ((sh[k].toNat : Int) == 110) = true := by rw [hsk]; decide
            have e97 : ((sh[k].toNat : Int) == 97) = false := by rw [hsk]; decide
            have e116 : ((sh[k].toNat : Int) == 116) = false := by rw [hsk]; decide
            have e107 : ((sh[k].toNat : Int) == 107) = false := by rw [hsk]; decide
            have e103 : ((sh[k].toNat : Int) == 103) = false := by rw [hsk]; decide
            clear hsk
            have hd2 := congrArg Prod.snd HRD.out
            simp only [clRead] at hd2
            subst hd2
            clear HRD HG2 hRD2 hRD1
            by_cases hz : t = []
            · have HDZ := Lib.hid (show decide (t ≠ []) = false from decide_eq_false (fun h => h hz))
              have g1 : ((bs t).toList == []) = true := by rw [bs_toL]; simpa using hz
              have g2 : (bs t).toList = [] := by rw [bs_toL]; exact hz
              have g3 : ((bs t).toList).isEmpty = true := by rw [bs_toL]; simpa using hz
              clear hz
              go_wp2_with fail
              all_goals (go_meet; exact ⟨by rw [HDZ.out]; rfl, rfl⟩)
            · have HDZ := Lib.hid (show decide (t ≠ []) = true from decide_eq_true hz)
              have g1 : ((bs t).toList == []) = false := by rw [bs_toL]; simpa using hz
              have g2 : ¬ (bs t).toList = [] := by rw [bs_toL]; exact hz
              have g3 : ((bs t).toList).isEmpty = false := by rw [bs_toL]; simpa using hz
              clear hz
              go_wp2_with fail
              all_goals (go_meet; exact ⟨by rw [HDZ.out]; rfl, rfl⟩)
          · have e101 : ((sh[k].toNat : Int) == 101) = false := by rw [hsk]; decide
            have e110 : ((sh[k].toNat : Int) == 110) = false := by rw [hsk]; decide
            have e97 : ((sh[k].toNat : Int) == 97) = true := by rw [hsk]; decide
            have e116 : ((sh[k].toNat : Int) == 116) = false := by rw [hsk]; decide
            have e107 : ((sh[k].toNat : Int) == 107) = false := by rw [hsk]; decide
            have e103 : ((sh[k].toNat : Int) == 103) = false := by rw [hsk]; decide
            clear hsk
            have hd2 := congrArg Prod.snd HRD.out
            simp only [clRead] at hd2
            subst hd2
            clear HRD HG2 hRD2 hRD1
            by_cases hz : t = []
            · have HDZ := Lib.hid (show decide (t ≠ []) = false from decide_eq_false (fun h => h hz))
              have g1 : ((bs t).toList == []) = true := by rw [bs_toL]; simpa using hz
              have g2 : (bs t).toList = [] := by rw [bs_toL]; exact hz
              have g3 : ((bs t).toList).isEmpty = true := by rw [bs_toL]; simpa using hz
              clear hz
              go_wp2_with fail
              all_goals (go_meet; exact ⟨by rw [HDZ.out]; rfl, rfl⟩)
            · have HDZ := Lib.hid (show decide (t ≠ []) = true from decide_eq_true hz)
              have g1 : ((bs t).toList == []) = false := by rw [bs_toL]; simpa using hz
              have g2 : ¬ (bs t).toList = [] := by rw [bs_toL]; exact hz
              have g3 : ((bs t).toList).isEmpty = false := by rw [bs_toL]; simpa using hz
              clear hz
              go_wp2_with fail
              all_goals (go_meet; exact ⟨by rw [HDZ.out]; rfl, rfl⟩)
          · have e101 : ((sh[k].toNat : Int) == 101) = false := by rw [hsk]; decide
            have e110 : ((sh[k].toNat : Int) == 110) = false := by rw [hsk]; decide
            have e97 : ((sh[k].toNat : Int) == 97) = false := by rw [hsk]; decide
            have e116 : ((sh[k].toNat : Int) == 116) = true := by rw [hsk]; decide
            have e107 : ((sh[k].toNat : Int) == 107) = false := by rw [hsk]; decide
            have e103 : ((sh[k].toNat : Int) == 103) = false := by rw [hsk]; decide
            clear hsk
            obtain rfl := hRD2.out (by omega)
            clear HRD HG2 hRD2 hRD1
            by_cases hz : t = []
            · have := HDN.out hz
              try simp only at this
              subst this
              have g1 : ((bs t).toList == []) = true := by rw [bs_toL]; simpa using hz
              have g2 : (bs t).toList = [] := by rw [bs_toL]; exact hz
              have g3 : ((bs t).toList).isEmpty = true := by rw [bs_toL]; simpa using hz
              clear hz
              go_wp2_with fail
              all_goals (go_meet; exact ⟨rfl, rfl⟩)
            · have g1 : ((bs t).toList == []) = false := by rw [bs_toL]; simpa using hz
              have g2 : ¬ (bs t).toList = [] := by rw [bs_toL]; exact hz
              have g3 : ((bs t).toList).isEmpty = false := by rw [bs_toL]; simpa using hz
              clear hz
              cases d with
              | false =>
                go_wp2_with fail
                all_goals (go_meet; exact ⟨rfl, rfl⟩)
              | true =>
                go_wp2_with fail
                all_goals (go_meet; exact ⟨rfl, rfl⟩)
          · have e101 : ((sh[k].toNat : Int) == 101) = false := by rw [hsk]; decide
            have e110 : ((sh[k].toNat : Int) == 110) = false := by rw [hsk]; decide
            have e97 : ((sh[k].toNat : Int) == 97) = false := by rw [hsk]; decide
            have e116 : ((sh[k].toNat : Int) == 116) = false := by rw [hsk]; decide
            have e107 : ((sh[k].toNat : Int) == 107) = true := by rw [hsk]; decide
            have e103 : ((sh[k].toNat : Int) == 103) = false := by rw [hsk]; decide
            clear hsk
            obtain rfl := hRD2.out (by omega)
            clear HRD HG2 hRD2 hRD1
            by_cases hz : t = []
            · have := HDN.out hz
              try simp only at this
              subst this
              have g1 : ((bs t).toList == []) = true := by rw [bs_toL]; simpa using hz
              have g2 : (bs t).toList = [] := by rw [bs_toL]; exact hz
              have g3 : ((bs t).toList).isEmpty = true := by rw [bs_toL]; simpa using hz
              clear hz
              go_wp2_with fail
              all_goals (go_meet; exact ⟨rfl, rfl⟩)
            · have g1 : ((bs t).toList == []) = false := by rw [bs_toL]; simpa using hz
              have g2 : ¬ (bs t).toList = [] := by rw [bs_toL]; exact hz
              have g3 : ((bs t).toList).isEmpty = false := by rw [bs_toL]; simpa using hz
              clear hz
              cases d with
              | false =>
                go_wp2_with fail
                all_goals (go_meet; exact ⟨rfl, rfl⟩)
              | true =>
                go_wp2_with fail
                all_goals (go_meet; exact ⟨rfl, rfl⟩)
          · have e101 : ((sh[k].toNat : Int) == 101) = false := by rw [hsk]; decide
            have e110 : ((sh[k].toNat : Int) == 110) = false := by rw [hsk]; decide
            have e97 : ((sh[k].toNat : Int) == 97) = false := by rw [hsk]; decide
            have e116 : ((sh[k].toNat : Int) == 116) = false := by rw [hsk]; decide
            have e107 : ((sh[k].toNat : Int) == 107) = false := by rw [hsk]; decide
            have e103 : ((sh[k].toNat : Int) == 103) = true := by rw [hsk]; decide
            clear hsk
            have hd2 := congrArg Prod.snd HRD.out
            simp only [clRead] at hd2
            subst hd2
            clear HRD HG2 hRD2 hRD1
            have tg : ((bs t).toList == [103, 111, 111, 100]) = decide (t = goodL) := by rw [bs_toL]; unfold goodL; exact Bool.eq_iff_iff.2 (by simp)
            have tb2 : ((bs t).toList == [98, 97, 100]) = decide (t = badL) := by rw [bs_toL]; unfold badL; exact Bool.eq_iff_iff.2 (by simp)
            have h3 : t = [] → decide (t = goodL) = false ∧ decide (t = badL) = false := fun h => by subst h; exact ⟨by decide, by decide⟩
            generalize decide (t = goodL) = dg at *
            generalize decide (t = badL) = db at *
            by_cases hz : t = []
            · obtain ⟨rfl, rfl⟩ := h3 hz
              have g1 : ((bs t).toList == []) = true := by rw [bs_toL]; simpa using hz
              have g2 : (bs t).toList = [] := by rw [bs_toL]; exact hz
              have g3 : ((bs t).toList).isEmpty = true := by rw [bs_toL]; simpa using hz
              clear hz h3
              go_wp2_with fail
              all_goals (go_meet; exact ⟨rfl, rfl⟩)
            · have g1 : ((bs t).toList == []) = false := by rw [bs_toL]; simpa using hz
              have g2 : ¬ (bs t).toList = [] := by rw [bs_toL]; exact hz
              have g3 : ((bs t).toList).isEmpty = false := by rw [bs_toL]; simpa using hz
              clear hz h3
              cases dg <;> cases db
              all_goals (go_wp2_with fail; all_goals (go_meet; exact ⟨rfl, rfl⟩))
        case rest =>
        obtain ⟨rfl, rfl⟩ := hcut
        go_at_K
        have hgo := HG2.out
        cases d with
        | false =>
          rw [if_neg (by simp)] at hgo
          obtain rfl : rr = (zeroCl 0, false) := by rw [← HRR.out, HGO.out, hgo]
          clear hgo HG2 hRD2 hRD1 HRD
          try unfold zeroCl
          try simp only [show ((0 : Nat) : Int) = 0 from rfl]
          go_wp2_with (first
            | (exact bodyPost_ret (v := .tuple #[.agg #[.int .i64 0, .bool false, .int .u64 0, .int .u64 0, .int .i64 0, .bool false, .int .u64 0, .int .u64 0, .int .i64 0, .int .i64 0, .int .i64 0, .bool false], .bool false]) (by simp [results, Tryz.results6, go_sem, e90, e91, e92, e93, e94, e95, e96, e97, e98, e99, e910, e911]) rfl ⟨rfl, bwz⟩)
            | (refine list_store_blk rfl 30 _ _ rfl (w.heap.size) [.int .i64 0, .bool false, .int .u64 0, .int .u64 0, .int .i64 0, .bool false, .int .u64 0, .int .u64 0, .int .i64 0, .int .i64 0, .int .i64 0, .bool false] _ 30 HR9.out rfl rfl (by kernel_rfl) rfl (by simp [Value.oneCell']) w.heap.size w bww9.out (Nat.le_refl _) ?_; intro wz hOz hothz hszz bwz; have e90 := hOz.cell (i := 0) rfl; have e91 := hOz.cell (i := 1) rfl; have e92 := hOz.cell (i := 2) rfl; have e93 := hOz.cell (i := 3) rfl; have e94 := hOz.cell (i := 4) rfl; have e95 := hOz.cell (i := 5) rfl; have e96 := hOz.cell (i := 6) rfl; have e97 := hOz.cell (i := 7) rfl; have e98 := hOz.cell (i := 8) rfl; have e99 := hOz.cell (i := 9) rfl; have e910 := hOz.cell (i := 10) rfl; have e911 := hOz.cell (i := 11) rfl))
        | true =>
          rw [if_pos rfl] at hgo
          have HGO2 := Lib.hid (HGO.out.trans hgo)
          clear hgo HGO HG2 hRD2 hRD1 HRD
          go_wp2_with fail
          go_roundw
          case rel => exact ⟨k + 1, u2, by have := HKL.out; omega, by go_num, HO9.out, HB9.out, HGO2.out⟩
          case measure => have := HKL.out; simp [intOf]; omega
      · obtain rfl : k = L.length := by omega
        obtain rfl : rr = (u, true) := by rw [← HRR.out, HGO.out, go_done]
        have q1 : ¬ (L.length : Int) < (sh.size : Int) := by rw [HSZ.out]; omega
        have hOr := HO.out
        unfold clV at hOr
        have hRr := HRr.out
        have bwr := bww.out
        go_wp2_with (first
          | (exact bodyPost_ret (v := .tuple #[.agg #[.int .i64 u.kind, .bool u.en.ad.v6, .int .u64 u.en.ad.hi, .int .u64 u.en.ad.lo, .int .i64 u.en.port, .bool u.nt.ad.v6, .int .u64 u.nt.ad.hi, .int .u64 u.nt.ad.lo, .int .i64 u.nt.bits, .int .i64 u.now, .int .i64 u.num, .bool u.good], .bool true]) (by simp [results, Tryz.results6, go_sem, e90, e91, e92, e93, e94, e95, e96, e97, e98, e99, e910, e911]) rfl ⟨rfl, bwz⟩)
          | (refine list_load_blk rfl _ _ rfl _ _ _ hOr rfl Tryz.underlying30 (by kernel_rfl) ?_)
          | (refine list_store_blk rfl 30 _ _ rfl (w.heap.size) _ _ 30 hRr rfl rfl (by kernel_rfl) rfl (by simp [Value.oneCell']) w.heap.size w bwr (Nat.le_refl _) ?_; intro wz hOz hothz hszz bwz; have e90 := hOz.cell (i := 0) rfl; have e91 := hOz.cell (i := 1) rfl; have e92 := hOz.cell (i := 2) rfl; have e93 := hOz.cell (i := 3) rfl; have e94 := hOz.cell (i := 4) rfl; have e95 := hOz.cell (i := 5) rfl; have e96 := hOz.cell (i := 6) rfl; have e97 := hOz.cell (i := 7) rfl; have e98 := hOz.cell (i := 8) rfl; have e99 := hOz.cell (i := 9) rfl; have e910 := hOz.cell (i := 10) rfl; have e911 := hOz.cell (i := 11) rfl))
end Go.Proofs.YtnohkfbapibmdaaGreat
