/- Texts put together: Int. No condition. -/
import Derived.Test.YtnplgagaoeckoaaGreatRuzzvrjikhw
import Derived.Test.YtnplgagaoeckoaaGreatRjocmslpnog
import Derived.Test.YtnplgagaoeckoaaGreatRluqwkbtqlq
import Derived.Test.YtnplgagaoeckoaaGreatRrloyafqzcj
import Derived.Test.YtnplgagaoeckoaaGreatRows
import Derived.Lib.Overlaps
import Derived.WalkKit
import Derived.WalkSpells
import Derived.Deep.RegionLaw
import Derived.Lib.SliceRun
set_option maxRecDepth 100000
set_option linter.unusedSimpArgs false
set_option linter.unusedVariables false
namespace Go.Proofs.YtnplgagaoeckoaaGreat
open Go.RowKit
def inV (n : Int) : List Value := [.int .i64 n]
theorem inV_one (n : Int) : (inV n).length = 1 := rfl
theorem inV_map (l : List Int) : l.flatMap inV = l.map fun n => .int .i64 n := by
 induction l with
 | nil => rfl
 | cons a r ih => rw [List.flatMap_cons, ih]; rfl
theorem ins_open {w : World} {v : Value} {l : List Int} (h : ReadsL inV 1 w v l) : l.length ≤ 9223372036854775807 ∧ ∃ (a : Option Addr) (c : Nat), v = .slice a l.length c ∧ (0 < l.length → ∃ b o, a = some ⟨b, o, none⟩ ∧ l.length ≤ c ∧ b < w.heap.size ∧
   ∀ (i : Nat) (p : Int), l[i]? = some p → w.cell? ⟨b, o + i, none⟩ = some (.int .i64 p)) := by
 obtain ⟨h1, a, c, h2, h3⟩ := h.open inV_one (by omega)
 refine ⟨h1, a, c, h2, fun hp => ?_⟩
 obtain ⟨b, o, h4, h5, h6, h7⟩ := h3 hp
 exact ⟨b, o, h4, h5, h6, fun i x hi => by have := h7 i x hi 0 _ rfl; simpa using this⟩
theorem inV_one1 (p : Int) : ∀ u ∈ inV p, u.oneCell' = true := by intro u hu; unfold inV at hu; rw [List.mem_singleton.1 hu]; rfl
theorem inV_ones (l : List Int) : ∀ u ∈ l.flatMap inV, u.oneCell' = true := by
 intro u hu
 obtain ⟨p, _, hp⟩ := List.mem_flatMap.1 hu
 exact inV_one1 p u hp
theorem inRow : RowT Tryz.prog 65 3 1 8 := RowT.mk (.int .i64 0) Tryz.underlying65 (by kernel_rfl) rfl (by omega)
theorem ins_len (l : List Int) : (l.flatMap inV).length = l.length * 1 := by
 induction l with
 | nil => rfl
 | cons p r ih => rw [List.flatMap_cons, List.length_append, ih, inV_one, List.length_cons]; omega
theorem in_take (l : List Int) (i : Nat) : (l.flatMap inV).take (i * 1) = (l.take i).flatMap inV := by
 rcases Nat.lt_or_ge l.length i with h | h
 ·rw [List.take_of_length_le (by rw [ins_len]; omega), List.take_of_length_le (by omega)]
 ·conv => lhs; rw [← List.take_append_drop i l, List.flatMap_append]
  have e : i * 1 = ((l.take i).flatMap inV).length := by rw [ins_len, List.length_take, Nat.min_eq_left h]
  rw [e]; exact List.take_left
theorem in_drop (l : List Int) (i : Nat) : (l.flatMap inV).drop (i * 1) = (l.drop i).flatMap inV := by
 rcases Nat.lt_or_ge l.length i with h | h
 ·rw [List.drop_of_length_le (by rw [ins_len]; omega), List.drop_of_length_le (by omega)]; rfl
 ·conv => lhs; rw [← List.take_append_drop i l, List.flatMap_append]
  have e : i * 1 = ((l.take i).flatMap inV).length := by rw [ins_len, List.length_take, Nat.min_eq_left h]
  rw [e]; exact List.drop_left
theorem zeroIn (w : World) : (zeroValue 3).run Tryz.prog w = .ok (.int .i64 0) w := by
 have hi : (Tryz.prog.info? 3).map (fun i => (i.zero, i.size, i.bytes)) = some (some (.int .i64 0), 1, 8) := by kernel_rfl
 obtain ⟨i, hi, hz0, _⟩ := info_parts hi
 simp [zeroValue, typeInfo, hi, hz0]


theorem below_farB {w0 w w' : World} {base g : Nat} (h : Below base w0 w) (hg : w.grownBy w' (some g)) (hb : base ≤ g) (hl : g < w.heap.size) : Below base w0 w' :=
 ⟨hg.os.trans h.os, hg.tape.trans h.tape, hg.output.trans h.output, Nat.le_trans h.size hg.size, fun k hk => by
  rw [hg.block k (by omega) (fun e => by injection e with e; omega)]; exact h.block k hk⟩
/-- one peer lies in a block of its own -/
theorem in_block {w : World} {B : Nat} {p : Int} {T : TypeId} (h : BlockIs w B (inV p) T) : Reads w (.slice (some ⟨B, 0, none⟩) 1 1) 1 1 (inV p) := by
 refine ⟨by rw [inV_one], by omega, Or.inr ⟨by omega, B, 0, 1, rfl, Nat.le_refl _, h.lt, fun j x hj => by rw [Nat.zero_add]; exact h.cell hj⟩⟩
def insI (l : List Int) (i : Nat) (p : Int) : List Int := l.take i ++ p :: l.drop i
set_option maxHeartbeats 4000000 in
theorem insIn_end (l : List Int) (hl : l.length ≤ 1000000) (p : Int) (v : Value) (base vb : Nat) (T : TypeId) (w : World) (hown : w.ownsRow base 3 1 v l.length (l.flatMap inV)) (hV : BlockIs w vb (inV p) T) (hbase : base ≤ w.heap.size) :
  Calls Tryz.prog 72 #[v, .int .i64 l.length, .slice (some ⟨vb, 0, none⟩) 1 1] w fun e w' => ∃ r, e = .returned r ∧ w'.ownsRow base 3 1 r (l.length + 1) ((l ++ [p]).flatMap inV) ∧ Below base w w' := by
 obtain ⟨hm, a, c, rfl, h3⟩ := ins_open (owns_readsL hown)
 have HO := zh hown; have HV := zh (in_block hV)
 have hca : l.length ≤ c := by
  rcases Nat.eq_zero_or_pos l.length with h | h
  ·omega
  ·obtain ⟨_, _, _, h5, _⟩ := h3 h; exact h5
 have hcz : (l.length : Int) ≤ (c : Int) := by omega
 clear hown hV h3
 obtain ⟨XS, hXS⟩ : ∃ XS, XS = (l ++ [p]).flatMap inV := ⟨_, rfl⟩
 have HF : Hid (l.flatMap inV ++ inV p = XS) := by show _ = _; rw [hXS, List.flatMap_append]; simp
 rw [← hXS]
 clear hXS
 go_enter Tryz.func72, Tryz.ntmps72
 go_wp2_with (at_builtin; refine list_app_reads inRow rfl (.tmp 23) (.tmp 24) rfl base _ l.length (l.flatMap inV) rfl HO.out _ 1 (inV p) rfl HV.out (inV_one1 p) (by omega) (by omega) hbase base w (Below.refl _ _) (Nat.le_refl _) ?_; intro v1 w1 o1 b1; rw [HF.out] at o1)
 all_goals (go_ret; exact ⟨v1, rfl, o1, b1⟩)
set_option maxHeartbeats 4000000 in
theorem insIn_grow (l : List Int) (i : Nat) (hi : i < l.length) (hl : l.length ≤ 1000000) (p : Int) (g cap base vb : Nat) (T : TypeId) (w : World) (hown : w.ownsRow base 3 1 (.slice (some ⟨g, 0, none⟩) l.length cap) l.length (l.flatMap inV)) (hV : BlockIs w vb (inV p) T) (hbase : base ≤ w.heap.size) (hc : cap < l.length + 1) :
  Calls Tryz.prog 72 #[.slice (some ⟨g, 0, none⟩) l.length cap, .int .i64 i, .slice (some ⟨vb, 0, none⟩) 1 1] w fun e w' => ∃ r, e = .returned r ∧ w'.ownsRow base 3 1 r (l.length + 1) ((insI l i p).flatMap inV) ∧ Below base w w' := by
 obtain ⟨hbg, hnc, hcm, cur, hR, hcur⟩ := owns_blk2 hown
 have hgl : g < w.heap.size := (hown.lt g rfl).2
 have hvl : vb < w.heap.size := hV.lt
 obtain rfl : cap = l.length := by omega
 obtain ⟨G, nw, hr, hG1, hG2, hN, hNt⟩ := run_app_zeros_grow (P := Tryz.prog) inRow (tn := 3) (ty := 65) (kn := .i64) Tryz.underlying3 hR i (l.length + 1 - i) (by omega) (by omega) (by omega) (by omega) (by omega)
 have hik : i + (l.length + 1 - i) = l.length + 1 := by omega
 rw [hik] at hr hG1
 have hkk : ((l.length + 1 - i : Nat) : Int) = (l.length : Int) + 1 - (i : Int) := by omega
 rw [hkk] at hr
 obtain ⟨W1, hW1⟩ : ∃ W1, W1 = w.drew.alloc (.cells nw.toArray 3) := ⟨_, rfl⟩
 rw [← hW1] at hr hN
 have B1 : Below w.heap.size w W1 := by rw [hW1]; exact ((Below.refl _ _).drew).alloc (Nat.le_refl _) _
 have hnl : nw.length = G * 1 := hN.2
 obtain ⟨hc1, hN2, hg2⟩ := run_copy2 (P := Tryz.prog) inRow hN i (l.length + 1 - i) (G - i) ⟨vb, 0, none⟩ 1 1 1 (inV p) (by simp only [Nat.min_def]; split <;> omega) (by rw [inV_one])
  (fun j x hj => by rw [addr_add, Nat.zero_add]; exact (hV.below B1).cell hj) (by rw [inV_one]; omega) (inV_one1 p) 3
 obtain ⟨W2, hW2⟩ : ∃ W2, W2 = W1.setRow w.heap.size (cpL nw (inV p) (i * 1)).toArray := ⟨_, rfl⟩
 rw [← hW2] at hc1 hN2 hg2
 have hN2d : RowBlk W2.drew 3 w.heap.size G 1 (cpL nw (inV p) (i * 1)) := hN2
 have hcl : cur = l.flatMap inV := by
  rw [← hcur]; exact (List.take_of_length_le (by rw [hR.2]; omega)).symm
 obtain ⟨hc2, hN3, hg3⟩ := run_copy2 (P := Tryz.prog) inRow hN2d (i + 1) (l.length - i) (G - (i + 1)) ⟨g, i * 1, none⟩ (l.length - i) (l.length - i) (l.length - i) ((l.drop i).flatMap inV) (by simp only [Nat.min_def]; split <;> omega) (by rw [ins_len, List.length_drop])
  (fun j x hj => by
   rw [addr_add, show W2.drew.cell? ⟨g, i * 1 + j, none⟩ = w.cell? ⟨g, i * 1 + j, none⟩ from by
    rw [show W2.drew.cell? ⟨g, i * 1 + j, none⟩ = W2.cell? ⟨g, i * 1 + j, none⟩ from rfl, hW2, cell_setRow_other _ _ _ _ (by show g ≠ w.heap.size; omega)]
    exact B1.cell (by exact hgl), blk_cell hR, hcl]
   rw [← in_drop l i, List.getElem?_drop] at hj
   exact hj) (by rw [ins_len, List.length_drop]; omega) (inV_ones _) 3
 obtain ⟨W3, hW3⟩ : ∃ W3, W3 = W2.drew.setRow w.heap.size (cpL (cpL nw (inV p) (i * 1)) ((l.drop i).flatMap inV) ((i + 1) * 1)).toArray := ⟨_, rfl⟩
 rw [← hW3] at hc2 hN3 hg3
 have hfin : W3.ownsRow base 3 1 (.slice (some ⟨w.heap.size, 0, none⟩) (l.length + 1) G) (l.length + 1) ((insI l i p).flatMap inV) := by
  have := blk_owns (n := l.length + 1) hN3 hbase hG1 hG2
  have e0 : nw.take (i * 1) = (l.take i).flatMap inV := by rw [hNt, hcl, in_take]
  have ea : ((l.take i).flatMap inV).length = i * 1 := by rw [ins_len, List.length_take, Nat.min_eq_left (by omega)]
  have e1 : (cpL nw (inV p) (i * 1)).take ((i + 1) * 1) = (l.take i).flatMap inV ++ inV p := by
   unfold cpL; rw [e0]; exact List.take_left' (by rw [List.length_append, ea, inV_one]; omega)
  have e2 : (cpL (cpL nw (inV p) (i * 1)) ((l.drop i).flatMap inV) ((i + 1) * 1)).take ((l.length + 1) * 1) = (insI l i p).flatMap inV := by
   rw [show cpL (cpL nw (inV p) (i * 1)) ((l.drop i).flatMap inV) ((i + 1) * 1) = ((l.take i).flatMap inV ++ inV p) ++ (l.drop i).flatMap inV ++ (cpL nw (inV p) (i * 1)).drop ((i + 1) * 1 + ((l.drop i).flatMap inV).length) from by unfold cpL; rw [← e1]; rfl]
   unfold insI
   rw [List.flatMap_append, List.flatMap_cons, ← List.append_assoc]
   exact List.take_left' (by rw [List.length_append, List.length_append, ea, inV_one, ins_len, List.length_drop]; omega)
  rw [e2] at this
  exact this
 have hbel : Below base w W3 := below_farB (below_farB (B1.mono hbase) hg2 hbase (by rw [hW1]; simp)).drew hg3 hbase (by
  have := hg2.size
  show w.heap.size < W2.heap.size
  have h1 : w.heap.size < W1.heap.size := by rw [hW1]; simp
  omega)
 try simp only [Nat.mul_one] at hr
 try simp only [Nat.mul_one] at hc1
 try simp only [Nat.mul_one] at hc2
 try simp only [Nat.mul_one] at hOV
 have HF := zh (And.intro hfin hbel)
 obtain ⟨HR, H2⟩ := zh2 hr hc2
 have hw1 : IntKind.i64.wrap ((i : Int) + 1) = (i : Int) + 1 := by rw [IntKind.wrap_i64]; omega
 have hin : (i : Int) ≤ (l.length : Int) := by omega
 have hne : ¬ ((i : Int) = (l.length : Int)) := by omega
 have htn : ((i : Int) + 1).toNat = i + 1 := by omega
 have hp1 : (0 : Int) ≤ (i : Int) + 1 := by omega
 have hp2 : (i : Int) + 1 ≤ (l.length : Int) + 1 := by omega
 have hp3 : (i : Int) + 1 ≤ (G : Int) := by omega
 have hp4 : (l.length : Int) + 1 ≤ (G : Int) := by omega
 have hGi : ¬ (G = i) := by omega
 have hGi1 : ¬ (G = i + 1) := by omega
 have hci : ¬ (l.length = i) := by omega
 have hiG : i ≤ G := by omega
 have hnG : l.length + 1 ≤ G := hG1
 have hG63 : G ≤ 9223372036854775807 := by unfold maxLen at hG2; omega
 clear hfin hbel hr hc2 hN hN2 hN3 hN2d hg2 hg3 hR hcur hcl hown hV hNt hnl hkk hik B1 hW1 hW2 hW3 hG1 hG2 hcm
 go_enter Tryz.func72, Tryz.ntmps72
 go_wp2_with (at_builtin; refine Lib.wpList_append_run _ rfl (.tmp 34) (.tmp 39) _ _ rfl _ _ rfl rfl _ _ HR.out ?_)
 go_region_law (refine step_copy2 rfl (.tmp 50) (.tmp 53) rfl (v := .slice (some ⟨w.heap.size, i + 1, none⟩) (l.length - i) (G - (i + 1))) (y := .slice (some ⟨g, i, none⟩) (l.length - i) (l.length - i)) (by simp [Act.eval, Act.put]) (by simp [Act.eval, Act.put]) H2.out ?_)
 go_wp2
 go_ret
 exact ⟨_, rfl, HF.out⟩
theorem overlaps_noI (w : World) (vb g : Nat) (p : Int) (T : TypeId) (n cap : Nat) (cur : List Value) (hV : BlockIs w vb (inV p) T) (hR : RowBlk w 3 g cap 1 cur) (hc : 0 < cap) (hne : vb ≠ g) (o lb cb : Nat) :
  (callFunc 95 #[.slice (some ⟨vb, 0, none⟩) 1 1, .slice (some ⟨g, o, none⟩) lb cb]).run Tryz.prog w = .ok (.value (.bool false)) w := by
 rw [run_callFunc_extern Tryz.func95 (by kernel_rfl) (by kernel_rfl) (by kernel_rfl) (e := Extern.SlicesOverlaps.overlaps #[65, 65] #[4]) (by kernel_rfl),
  Lib.run_overlaps_apart w 65 4 3 Tryz.underlying65 1 (fun w => by
   have hi : (Tryz.prog.info? 3).map (fun i => (i.zero, i.size, i.bytes)) = some (some (.int .i64 0), 1, 8) := by kernel_rfl
   obtain ⟨i, hi, _, hs, _⟩ := info_parts hi
   simp [sizeOf, typeInfo, hi, hs]) ⟨vb, 0, none⟩ ⟨g, o, none⟩ 1 1 lb cb hne T 3 1 (cap * 1)
   (by simp only [World.shape?, show w.heap[vb]? = some (.cells (inV p).toArray T) from hV]; rw [List.size_toArray, inV_one])
   (by simp only [World.shape?, hR.1]; rw [List.size_toArray, hR.2]) (by omega) (hV.frozen 0) (hV.frozen 1)]
 rfl
set_option maxHeartbeats 4000000 in
theorem insIn_shift (l : List Int) (i : Nat) (hi : i < l.length) (hl : l.length ≤ 1000000) (p : Int) (g cap base vb : Nat) (T : TypeId) (w : World) (hown : w.ownsRow base 3 1 (.slice (some ⟨g, 0, none⟩) l.length cap) l.length (l.flatMap inV)) (hV : BlockIs w vb (inV p) T) (hbase : base ≤ w.heap.size) (hne : vb ≠ g) (hc : l.length + 1 ≤ cap) :
  Calls Tryz.prog 72 #[.slice (some ⟨g, 0, none⟩) l.length cap, .int .i64 i, .slice (some ⟨vb, 0, none⟩) 1 1] w fun e w' => ∃ r, e = .returned r ∧ w'.ownsRow base 3 1 r (l.length + 1) ((insI l i p).flatMap inV) ∧ Below base w w' := by
 obtain ⟨hbg, hnc, hcm, cur, hR, hcur⟩ := owns_blk2 hown
 have hgl : g < w.heap.size := (hown.lt g rfl).2
 have hOV := overlaps_noI w vb g p T 1 cap cur hV hR (by omega) hne
 have hRd : RowBlk w.drew 3 g cap 1 cur := hR
 have hdl : ((l.drop i).flatMap inV).length = (l.length - i) * 1 := by rw [ins_len, List.length_drop]
 obtain ⟨hc1, hN1, hg1⟩ := run_copy2 (P := Tryz.prog) inRow hRd (i + 1) (l.length - i) (cap - (i + 1)) ⟨g, i * 1, none⟩ (l.length + 1 - i) (cap - i) (l.length - i) ((l.drop i).flatMap inV) (by simp only [Nat.min_def]; split <;> omega) hdl
  (fun j x hj => by
   rw [addr_add, blk_cell hRd]
   rw [← in_drop l i, List.getElem?_drop, ← hcur, List.getElem?_take] at hj
   split at hj
   ·exact hj
   ·cases hj) (by rw [hdl]; omega) (inV_ones _) 3
 obtain ⟨W1, hW1⟩ : ∃ W1, W1 = w.drew.setRow g (cpL cur ((l.drop i).flatMap inV) ((i + 1) * 1)).toArray := ⟨_, rfl⟩
 rw [← hW1] at hc1 hN1 hg1
 obtain ⟨hc2, hN2, hg2⟩ := run_copy2 (P := Tryz.prog) inRow hN1 i (l.length + 1 - i) (cap - i) ⟨vb, 0, none⟩ 1 1 1 (inV p) (by simp only [Nat.min_def]; split <;> omega) (by rw [inV_one])
  (fun j x hj => by
   rw [addr_add, Nat.zero_add, hW1, cell_setRow_other _ _ _ _ (by exact hne)]
   exact hV.cell hj) (by rw [inV_one]; omega) (inV_one1 p) 3
 obtain ⟨W2, hW2⟩ : ∃ W2, W2 = W1.setRow g (cpL (cpL cur ((l.drop i).flatMap inV) ((i + 1) * 1)) (inV p) (i * 1)).toArray := ⟨_, rfl⟩
 rw [← hW2] at hc2 hN2 hg2
 have hfin : W2.ownsRow base 3 1 (.slice (some ⟨g, 0, none⟩) (l.length + 1) cap) (l.length + 1) ((insI l i p).flatMap inV) := by
  have := blk_owns (n := l.length + 1) hN2 hbg hc hcm
  have ec : cur.take (i * 1) = (l.take i).flatMap inV := by rw [← in_take l i, ← hcur, List.take_take, Nat.min_eq_left (by omega)]
  have ea : ((l.take i).flatMap inV).length = i * 1 := by rw [ins_len, List.length_take, Nat.min_eq_left (by omega)]
  have el : (cur.take ((i + 1) * 1)).length = (i + 1) * 1 := by rw [List.length_take, hR.2]; omega
  have e1 : (cpL cur ((l.drop i).flatMap inV) ((i + 1) * 1)).take (i * 1) = (l.take i).flatMap inV := by
   unfold cpL
   rw [List.append_assoc, List.take_append_of_le_length (by rw [el]; omega), List.take_take, Nat.min_eq_left (by omega), ec]
  have e2 : (cpL cur ((l.drop i).flatMap inV) ((i + 1) * 1)).drop ((i + 1) * 1) = (l.drop i).flatMap inV ++ cur.drop ((i + 1) * 1 + ((l.drop i).flatMap inV).length) := by
   unfold cpL
   rw [List.append_assoc]
   exact List.drop_left' el
  have e3' : ∀ C A D : List Value, C.take (i * 1) = A → C.drop ((i + 1) * 1) = D → cpL C (inV p) (i * 1) = A ++ inV p ++ D := by
   intro C A D h1 h2
   unfold cpL
   rw [h1, inV_one, show i * 1 + 1 = (i + 1) * 1 by omega, h2]
  have e3 := e3' _ _ _ e1 e2
  have e4 : (cpL (cpL cur ((l.drop i).flatMap inV) ((i + 1) * 1)) (inV p) (i * 1)).take ((l.length + 1) * 1) = (insI l i p).flatMap inV := by
   rw [e3]
   unfold insI
   rw [List.flatMap_append, List.flatMap_cons, ← List.append_assoc, ← List.append_assoc]
   exact List.take_left' (by rw [List.length_append, List.length_append, ea, inV_one, hdl]; omega)
  rw [e4] at this
  exact this
 have hbel : Below base w W2 := below_farB (below_farB (Below.refl base w).drew hg1 hbg hgl) hg2 hbg (by have := hg1.size; exact Nat.lt_of_lt_of_le hgl this)
 try simp only [Nat.mul_one] at hr
 try simp only [Nat.mul_one] at hc1
 try simp only [Nat.mul_one] at hc2
 try simp only [Nat.mul_one] at hOV
 have HF := zh (And.intro hfin hbel)
 obtain ⟨H1, HO⟩ := zh2 hc1 hOV
 have hw1 : IntKind.i64.wrap ((i : Int) + 1) = (i : Int) + 1 := by rw [IntKind.wrap_i64]; omega
 have hin : (i : Int) ≤ (l.length : Int) := by omega
 have hnez : ¬ ((i : Int) = (l.length : Int)) := by omega
 have htn : ((i : Int) + 1).toNat = i + 1 := by omega
 have htl : ((l.length : Int) + 1).toNat = l.length + 1 := by omega
 have hp0 : (0 : Int) ≤ (l.length : Int) + 1 := by omega
 have hp1 : (0 : Int) ≤ (i : Int) + 1 := by omega
 have hp2 : (i : Int) + 1 ≤ (l.length : Int) + 1 := by omega
 have hp3 : (i : Int) + 1 ≤ (cap : Int) := by omega
 have hp4 : (l.length : Int) + 1 ≤ (cap : Int) := by omega
 have hp5 : ¬ ((cap : Int) < (l.length : Int) + 1) := by omega
 have hp6 : (i : Int) ≤ (l.length : Int) + 1 := by omega
 have hp7 : (l.length : Int) ≤ (cap : Int) := by omega
 have hp8 : (i : Int) ≤ (cap : Int) := by omega
 have hGi : ¬ (cap = i) := by omega
 have hGi1 : ¬ (cap = i + 1) := by omega
 have hG63 : cap ≤ 9223372036854775807 := by unfold maxLen at hcm; omega
 clear hfin hbel hc1 hN1 hN2 hg1 hg2 hR hRd hcur hown hV hW1 hW2 hcm hdl
 go_enter Tryz.func72, Tryz.ntmps72
 go_wp2_with (simp only [hOV])
 go_region_law (refine step_copy2 rfl (.tmp 73) (.tmp 76) rfl (v := .slice (some ⟨g, i + 1, none⟩) (l.length - i) (cap - (i + 1))) (y := .slice (some ⟨g, i, none⟩) (l.length + 1 - i) (cap - i)) (by simp [Act.eval, Act.put]) (by simp [Act.eval, Act.put]) H1.out ?_)
 go_wp2
 go_ret
 exact ⟨_, rfl, HF.out⟩
/-- slices.Insert OF ONE PEER -/
theorem insIn (l : List Int) (i : Nat) (hi : i ≤ l.length) (hl : l.length ≤ 1000000) (p : Int) (v : Value) (base vb : Nat) (T : TypeId) (w : World) (hown : w.ownsRow base 3 1 v l.length (l.flatMap inV)) (hV : BlockIs w vb (inV p) T) (hbase : base ≤ w.heap.size)
  (hne : ∀ g c, v = .slice (some ⟨g, 0, none⟩) l.length c → vb ≠ g) :
  Calls Tryz.prog 72 #[v, .int .i64 i, .slice (some ⟨vb, 0, none⟩) 1 1] w fun e w' => ∃ r, e = .returned r ∧ w'.ownsRow base 3 1 r (l.length + 1) ((insI l i p).flatMap inV) ∧ Below base w w' := by
 rcases Nat.lt_or_ge i l.length with h | h
 ·have hv : ∃ g cap, v = .slice (some ⟨g, 0, none⟩) l.length cap := by
   rcases hown.2 with ⟨_, h0⟩ | ⟨g, cap, _, rfl, _⟩
   ·omega
   ·exact ⟨_, _, rfl⟩
  obtain ⟨g, cap, rfl⟩ := hv
  rcases Nat.lt_or_ge cap (l.length + 1) with hc | hc
  ·exact insIn_grow l i h hl p g cap base vb T w hown hV hbase hc
  ·exact insIn_shift l i h hl p g cap base vb T w hown hV hbase (hne g cap rfl) hc
 ·obtain rfl : i = l.length := by omega
  have := insIn_end l hl p v base vb T w hown hV hbase
  rwa [show insI l l.length p = l ++ [p] by unfold insI; rw [List.take_length, List.drop_length]]
end Go.Proofs.YtnplgagaoeckoaaGreat
