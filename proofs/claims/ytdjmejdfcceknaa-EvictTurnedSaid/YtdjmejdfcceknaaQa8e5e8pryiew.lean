/- Texts put together: Shield, ShieldB, ShieldC, ShieldD, LawShield, PlSaved, LawShieldB, QuV. No condition. -/
import Derived.Test.YtdjmejdfcceknaaQ02a01eyfjyxs
import Derived.Test.YtdjmejdfcceknaaQ5cef9cmcclmt
import Derived.Test.YtdjmejdfcceknaaQ668131zsapqc
import Derived.Test.YtdjmejdfcceknaaQTail
import Derived.Test.YtdjmejdfcceknaaPeM
import Derived.Test.YtdjmejdfcceknaaQ39b3e2tfzfty
/- The contracts of who is inside a quota. Conditions: numbers are 64 bits. -/
namespace Go.Proofs.Ytdjmejdfcceknaa
open Go.RowKit
set_option linter.unusedSimpArgs false
set_option linter.unusedVariables false

structure Qu where
  group : Int
  ping : Int
  work : Int
  time : Int
def quN (q : Qu) (b : Int) : Int := if b = 1 then q.group else if b = 2 then q.ping else if b = 3 then q.work else q.time
def inB (l : List Pe) (q : Qu) (s i : Nat) (b : Int) : Bool := rkCounts (rkGet l i) b && decide (rkRank l i b s < quN q b)
def shIn (l : List Pe) (i : Int) (q : Qu) (s : Nat) : Bool := if i < 0 ∨ (l.length : Int) ≤ i then false else inB l q s i.toNat 1 || (inB l q s i.toNat 2 || (inB l q s i.toNat 3 || inB l q s i.toNat 4))
theorem shIn_out {l : List Pe} {i : Int} {q : Qu} {s : Nat} (h : i < 0 ∨ (l.length : Int) ≤ i) : shIn l i q s = false := by unfold shIn; rw [if_pos h]
theorem shIn_at {l : List Pe} {i : Nat} {q : Qu} {s : Nat} (h : i < l.length) : shIn l i q s = (inB l q s i 1 || (inB l q s i 2 || (inB l q s i 3 || inB l q s i 4))) := by unfold shIn; rw [if_neg (by omega), show ((i : Int)).toNat = i from by omega]
theorem shIn_none {l : List Pe} {i : Nat} {q : Qu} {s : Nat} (h : i < l.length) (hn : ∀ b : Nat, 1 ≤ b → b ≤ 4 → inB l q s i b = false) : shIn l i q s = false := by
  rw [shIn_at h, show inB l q s i 1 = false from hn 1 (by omega) (by omega), show inB l q s i 2 = false from hn 2 (by omega) (by omega), show inB l q s i 3 = false from hn 3 (by omega) (by omega), show inB l q s i 4 = false from hn 4 (by omega) (by omega)]; rfl
theorem shIn_one {l : List Pe} {i : Nat} {q : Qu} {s : Nat} (h : i < l.length) {b : Nat} (h1 : 1 ≤ b) (h4 : b ≤ 4) (hb : inB l q s i b = true) : shIn l i q s = true := by
  rw [shIn_at h]
  rcases (show b = 1 ∨ b = 2 ∨ b = 3 ∨ b = 4 by omega) with rfl | rfl | rfl | rfl
  · rw [show inB l q s i 1 = true from hb]; rfl
  · rw [show inB l q s i 2 = true from hb]; simp
  · rw [show inB l q s i 3 = true from hb]; simp
  · rw [show inB l q s i 4 = true from hb]; simp
theorem inB_no {l : List Pe} {i : Nat} {q : Qu} {s : Nat} {b : Int} {c : Bool} (hc : rkCounts (rkGet l i) b = c) (h : c = false ∨ ¬ rkRank l i b s < quN q b) : inB l q s i b = false := by
  unfold inB; rw [hc]
  rcases h with h | h
  · rw [h]; rfl
  · rw [decide_eq_false h]; simp
theorem inB_yes {l : List Pe} {i : Nat} {q : Qu} {s : Nat} {b : Int} (hc : rkCounts (rkGet l i) b = true) (h : rkRank l i b s < quN q b) : inB l q s i b = true := by
  unfold inB; rw [hc, decide_eq_true h]; rfl
set_option maxRecDepth 100000 in
theorem turns_any (q : Qu) (w : World) : Calls Try.prog 93 #[.agg #[.int .i64 q.group, .int .i64 q.ping, .int .i64 q.work, .int .i64 q.time]] w fun e w' => e = .returned (.agg #[.int .i64 1, .int .i64 q.group, .int .i64 2, .int .i64 q.ping, .int .i64 3, .int .i64 q.work, .int .i64 4, .int .i64 q.time]) ∧ Below w.heap.size w w' := by
  go_enter Try.func93, Try.ntmps93
  go_wp2_with fail
  refine bodyPost_named fun W9 h9 => ?_
  have e90 : W9.cell? ⟨w.heap.size + 1, 0, none⟩ = some (.int .i64 1) := by subst h9; (first | (simp [go_sem, *]; done) | (simp (disch := first | omega | (simp; omega) | (simp [go_sem, *]; done)) [go_sem, World.cell?_setCell_far, World.cell?_alloc_past, *]; done))
  have e91 : W9.cell? ⟨w.heap.size + 1, 1, none⟩ = some (.int .i64 q.group) := by subst h9; (first | (simp [go_sem, *]; done) | (simp (disch := first | omega | (simp; omega) | (simp [go_sem, *]; done)) [go_sem, World.cell?_setCell_far, World.cell?_alloc_past, *]; done))
  have e92 : W9.cell? ⟨w.heap.size + 1, 2, none⟩ = some (.int .i64 2) := by subst h9; (first | (simp [go_sem, *]; done) | (simp (disch := first | omega | (simp; omega) | (simp [go_sem, *]; done)) [go_sem, World.cell?_setCell_far, World.cell?_alloc_past, *]; done))
  have e93 : W9.cell? ⟨w.heap.size + 1, 3, none⟩ = some (.int .i64 q.ping) := by subst h9; (first | (simp [go_sem, *]; done) | (simp (disch := first | omega | (simp; omega) | (simp [go_sem, *]; done)) [go_sem, World.cell?_setCell_far, World.cell?_alloc_past, *]; done))
  have e94 : W9.cell? ⟨w.heap.size + 1, 4, none⟩ = some (.int .i64 3) := by subst h9; (first | (simp [go_sem, *]; done) | (simp (disch := first | omega | (simp; omega) | (simp [go_sem, *]; done)) [go_sem, World.cell?_setCell_far, World.cell?_alloc_past, *]; done))
  have e95 : W9.cell? ⟨w.heap.size + 1, 5, none⟩ = some (.int .i64 q.work) := by subst h9; (first | (simp [go_sem, *]; done) | (simp (disch := first | omega | (simp; omega) | (simp [go_sem, *]; done)) [go_sem, World.cell?_setCell_far, World.cell?_alloc_past, *]; done))
  have e96 : W9.cell? ⟨w.heap.size + 1, 6, none⟩ = some (.int .i64 4) := by subst h9; (first | (simp [go_sem, *]; done) | (simp (disch := first | omega | (simp; omega) | (simp [go_sem, *]; done)) [go_sem, World.cell?_setCell_far, World.cell?_alloc_past, *]; done))
  have e97 : W9.cell? ⟨w.heap.size + 1, 7, none⟩ = some (.int .i64 q.time) := by subst h9; (first | (simp [go_sem, *]; done) | (simp (disch := first | omega | (simp; omega) | (simp [go_sem, *]; done)) [go_sem, World.cell?_setCell_far, World.cell?_alloc_past, *]; done))
  have b9 : Below w.heap.size w W9 := by subst h9; (repeat (first | with_reducible assumption | with_reducible exact Below.refl _ _ | with_reducible refine Below.setCell ?_ (by first | omega | (simp; done) | (simp; omega)) _ | with_reducible refine Below.alloc ?_ (by first | omega | (simp; done) | (simp; omega)) _ | with_reducible refine Below.drew ?_ | (with_reducible refine Below.trans ?_ (Below.mono (by with_reducible assumption) (by first | omega | (simp; done) | (simp; omega)))) | (refine Below.trans ?_ (Below.mono (by assumption) (by first | omega | (simp; done) | (simp; omega))))))
  clear h9
  refine bodyPost_ret (v := .agg #[.int .i64 1, .int .i64 q.group, .int .i64 2, .int .i64 q.ping, .int .i64 3, .int .i64 q.work, .int .i64 4, .int .i64 q.time]) (by simp [results, Try.results93, go_sem, e90, e91, e92, e93, e94, e95, e96, e97]) rfl ⟨?_, b9⟩
  rfl
set_option maxRecDepth 100000 in
theorem refQuota_any (q : Qu) (b : Nat) (w : World) : Calls Try.prog 94 #[.agg #[.int .i64 q.group, .int .i64 q.ping, .int .i64 q.work, .int .i64 q.time], .int .i64 b] w fun e w' => e = .returned (.int .i64 (quN q b)) ∧ Below w.heap.size w w' := by
  by_cases h1 : (b : Int) = 1
  · have e : quN q b = q.group := by unfold quN; rw [if_pos h1]
    rw [e, h1]
    go_enter Try.func94, Try.ntmps94
    go_wp2_with fail
    go_ret
    exact ⟨rfl, by (repeat (first | with_reducible assumption | with_reducible exact Below.refl _ _ | with_reducible refine Below.setCell ?_ (by first | omega | (simp; done) | (simp; omega)) _ | with_reducible refine Below.alloc ?_ (by first | omega | (simp; done) | (simp; omega)) _ | with_reducible refine Below.drew ?_ | (with_reducible refine Below.trans ?_ (Below.mono (by with_reducible assumption) (by first | omega | (simp; done) | (simp; omega)))) | (refine Below.trans ?_ (Below.mono (by assumption) (by first | omega | (simp; done) | (simp; omega))))))⟩
  have d1 : ((b : Int) == 1) = false := beq_eq_false_iff_ne.2 h1
  by_cases h2 : (b : Int) = 2
  · have e : quN q b = q.ping := by unfold quN; rw [if_neg h1, if_pos h2]
    rw [e, h2]
    clear d1 h1 h2
    go_enter Try.func94, Try.ntmps94
    go_wp2_with fail
    go_ret
    exact ⟨rfl, by (repeat (first | with_reducible assumption | with_reducible exact Below.refl _ _ | with_reducible refine Below.setCell ?_ (by first | omega | (simp; done) | (simp; omega)) _ | with_reducible refine Below.alloc ?_ (by first | omega | (simp; done) | (simp; omega)) _ | with_reducible refine Below.drew ?_ | (with_reducible refine Below.trans ?_ (Below.mono (by with_reducible assumption) (by first | omega | (simp; done) | (simp; omega)))) | (refine Below.trans ?_ (Below.mono (by assumption) (by first | omega | (simp; done) | (simp; omega))))))⟩
  have d2 : ((b : Int) == 2) = false := beq_eq_false_iff_ne.2 h2
  by_cases h3 : (b : Int) = 3
  · have e : quN q b = q.work := by unfold quN; rw [if_neg h1, if_neg h2, if_pos h3]
    rw [e, h3]
    clear d1 d2 h1 h2 h3
    go_enter Try.func94, Try.ntmps94
    go_wp2_with fail
    go_ret
    exact ⟨rfl, by (repeat (first | with_reducible assumption | with_reducible exact Below.refl _ _ | with_reducible refine Below.setCell ?_ (by first | omega | (simp; done) | (simp; omega)) _ | with_reducible refine Below.alloc ?_ (by first | omega | (simp; done) | (simp; omega)) _ | with_reducible refine Below.drew ?_ | (with_reducible refine Below.trans ?_ (Below.mono (by with_reducible assumption) (by first | omega | (simp; done) | (simp; omega)))) | (refine Below.trans ?_ (Below.mono (by assumption) (by first | omega | (simp; done) | (simp; omega))))))⟩
  have d3 : ((b : Int) == 3) = false := beq_eq_false_iff_ne.2 h3
  have e : quN q b = q.time := by unfold quN; rw [if_neg h1, if_neg h2, if_neg h3]
  rw [e]
  go_enter Try.func94, Try.ntmps94
  go_wp2_with fail
  go_ret
  exact ⟨rfl, by (repeat (first | with_reducible assumption | with_reducible exact Below.refl _ _ | with_reducible refine Below.setCell ?_ (by first | omega | (simp; done) | (simp; omega)) _ | with_reducible refine Below.alloc ?_ (by first | omega | (simp; done) | (simp; omega)) _ | with_reducible refine Below.drew ?_ | (with_reducible refine Below.trans ?_ (Below.mono (by with_reducible assumption) (by first | omega | (simp; done) | (simp; omega)))) | (refine Below.trans ?_ (Below.mono (by assumption) (by first | omega | (simp; done) | (simp; omega))))))⟩
set_option maxRecDepth 100000 in
set_option maxHeartbeats 8000000 in
theorem sh_inside_any (v : Value) (l : List Pe) (hl : ∀ x ∈ l, x.fits) (i : Int) (q : Qu) (s : Nat) (hs : s < 18446744073709551616) (w : World) (h : ReadsL peV 10 w v l) (hn : l.length ≤ 1000000) :
    Calls Try.prog 48 #[v, .int .i64 i, .agg #[.int .i64 q.group, .int .i64 q.ping, .int .i64 q.work, .int .i64 q.time], .int .u64 s] w fun e w' => e = .returned (.bool (shIn l i q s)) ∧ Below w.heap.size w w' := by
  have h0 := h
  obtain ⟨hm, p, c, rfl, h3⟩ := pes_open h
  clear h
  by_cases h1 : i < 0
  · rw [shIn_out (Or.inl h1)]
    go_enter Try.func48, Try.ntmps48
    go_wp2_with fail
    go_ret
    exact ⟨rfl, by (repeat (first | with_reducible assumption | with_reducible exact Below.refl _ _ | with_reducible refine Below.setCell ?_ (by first | omega | (simp; done) | (simp; omega)) _ | with_reducible refine Below.alloc ?_ (by first | omega | (simp; done) | (simp; omega)) _ | with_reducible refine Below.drew ?_ | (with_reducible refine Below.trans ?_ (Below.mono (by with_reducible assumption) (by first | omega | (simp; done) | (simp; omega)))) | (refine Below.trans ?_ (Below.mono (by assumption) (by first | omega | (simp; done) | (simp; omega))))))⟩
  by_cases h2 : (l.length : Int) ≤ i
  · rw [shIn_out (Or.inr h2)]
    go_enter Try.func48, Try.ntmps48
    go_wp2_with fail
    go_ret
    exact ⟨rfl, by (repeat (first | with_reducible assumption | with_reducible exact Below.refl _ _ | with_reducible refine Below.setCell ?_ (by first | omega | (simp; done) | (simp; omega)) _ | with_reducible refine Below.alloc ?_ (by first | omega | (simp; done) | (simp; omega)) _ | with_reducible refine Below.drew ?_ | (with_reducible refine Below.trans ?_ (Below.mono (by with_reducible assumption) (by first | omega | (simp; done) | (simp; omega)))) | (refine Below.trans ?_ (Below.mono (by assumption) (by first | omega | (simp; done) | (simp; omega))))))⟩
  obtain ⟨j, rfl⟩ : ∃ j : Nat, i = j := ⟨i.toNat, by omega⟩
  have hj : j < l.length := by omega
  have HJ := Lib.hid hj
  obtain ⟨a, hja⟩ : ∃ a, l[j]? = some a := ⟨_, List.getElem?_eq_getElem hj⟩
  have HG := Lib.hid (rkGet_at hja)
  obtain ⟨b, o, rfl, h4, h5, h6⟩ := h3 (by omega)
  have HA := h6 j a hja
  have q1 : (0 : Int) ≤ (j : Int) := by omega
  have q2 : (j : Int) < (l.length : Int) := by omega
  clear h3 hja h6 hj
  have HRK := Lib.hid (fun (z : Int) (W : World) (hW : Below w.heap.size w W) => rk_rank_any _ l hl j z s hs W (Reads.below h0 hW) hn)
  go_enter Try.func48, Try.ntmps48
  have HT := Lib.hid (fun w => turns_any q w)
  go_upto_region 4 with (go_at_call 93; (with_reducible refine (HT.out _).mono ?_); rintro e w4 ⟨rfl, b4⟩)
  have b4' : Below w.heap.size w w4 := by (repeat (first | with_reducible assumption | with_reducible exact Below.refl _ _ | with_reducible refine Below.setCell ?_ (by first | omega | (simp; done) | (simp; omega)) _ | with_reducible refine Below.alloc ?_ (by first | omega | (simp; done) | (simp; omega)) _ | with_reducible refine Below.drew ?_ | (with_reducible refine Below.trans ?_ (Below.mono (by with_reducible assumption) (by first | omega | (simp; done) | (simp; omega)))) | (refine Below.trans ?_ (Below.mono (by assumption) (by first | omega | (simp; done) | (simp; omega))))))
  have HB4 := Lib.hid b4'
  clear b4 b4' HT
  go_loopw [21] (fun i' wr => ∃ k : Nat, k ≤ 4 ∧ i' = .int .i64 k ∧ Hid (∀ b : Nat, 1 ≤ b → b ≤ k → inB l q s j b = false) ∧ Hid (Below w.heap.size w wr)) (fun i' _ => 4 - (intOf i').toNat)
  case atStart => exact ⟨0, by omega, rfl, fun b _ _ => by omega, HB4.out⟩
  case round =>
    obtain ⟨k, hk, rfl, HN, HB⟩ := hrel
    rcases (show k = 4 ∨ k = 0 ∨ k = 1 ∨ k = 2 ∨ k = 3 by omega) with rfl | rfl | rfl | rfl | rfl
    · go_wp2_with fail
      go_ret
      exact ⟨by rw [shIn_none HJ.out (fun b h1 h4 => HN.out b h1 h4)]; rfl, HB.out⟩
    · have HC := Lib.hid (fun w => rk_counts_any a 1 w)
      have HS : Hid (∀ c, rkCounts a 1 = c → (c = false ∨ ¬ rkRank l j 1 s < q.group) → ∀ b : Nat, 1 ≤ b → b ≤ 1 → inB l q s j b = false) := fun c hc h b h1 h2 => by
        rcases Nat.lt_or_ge b 1 with h3 | h3
        · exact HN.out b h1 (by omega)
        · obtain rfl : b = 1 := by omega
          exact inB_no (by rw [HG.out]; exact hc) h
      have HY : Hid (rkCounts a 1 = true → rkRank l j 1 s < q.group → inB l q s j 1 = true) := fun hc h => inB_yes (by rw [HG.out]; exact hc) h
      simp only [show ((0 : Nat) : Int) = 0 from rfl]
      have hix := fun (W : World) => (show (Instr.index 98 (.agg #[.int .i64 1, .int .i64 q.group, .int .i64 2, .int .i64 q.ping, .int .i64 3, .int .i64 q.work, .int .i64 4, .int .i64 q.time]) (.int .i64 0)).run Try.prog W = .ok (.agg #[.int .i64 1, .int .i64 q.group]) W by kernel_rfl)
      go_upto_region 6 with fail
      clear hix
      go_name_world WW6 hWW6
      have e60 : WW6.cell? ⟨wr.heap.size, 0, none⟩ = some (.int .i64 1) := by subst hWW6; (first | (simp (disch := first | omega | (simp; omega)) [World.cell?_alloc_past, World.frozen?_alloc_past, *]; done) | (simp (disch := first | omega | (simp; omega)) [World.cell?_setCell_far, World.cell?_alloc_past, *]; done) | (simp (disch := first | omega | (simp; omega)) [World.cell?_alloc_past, World.frozen?_alloc_past, *]; rfl) | (simp (disch := first | omega | (simp; omega)) [World.cell?_setCell_far, World.cell?_alloc_past, *]; rfl) | (simp [go_sem, *]; done) | (simp (disch := first | omega | (simp; omega) | (simp [go_sem, *]; done)) [go_sem, World.cell?_setCell_far, World.cell?_alloc_past, World.frozen?_alloc_past, *]; done))
      have e61 : WW6.cell? ⟨wr.heap.size, 1, none⟩ = some (.int .i64 q.group) := by subst hWW6; (first | (simp (disch := first | omega | (simp; omega)) [World.cell?_alloc_past, World.frozen?_alloc_past, *]; done) | (simp (disch := first | omega | (simp; omega)) [World.cell?_setCell_far, World.cell?_alloc_past, *]; done) | (simp (disch := first | omega | (simp; omega)) [World.cell?_alloc_past, World.frozen?_alloc_past, *]; rfl) | (simp (disch := first | omega | (simp; omega)) [World.cell?_setCell_far, World.cell?_alloc_past, *]; rfl) | (simp [go_sem, *]; done) | (simp (disch := first | omega | (simp; omega) | (simp [go_sem, *]; done)) [go_sem, World.cell?_setCell_far, World.cell?_alloc_past, World.frozen?_alloc_past, *]; done))
      have bw6 : Below wr.heap.size wr WW6 := by subst hWW6; (repeat (first | assumption | exact Below.refl _ _ | refine Below.setCell ?_ (by first | omega | (simp; done) | (simp; omega)) _ | refine Below.alloc ?_ (by first | omega | (simp; done) | (simp; omega)) _ | refine Below.drew ?_ | (refine Below.trans ?_ (Below.mono (by assumption) (by first | omega | (simp; done) | (simp; omega))))))
      have zw6 : _ := bw6.size
      have lW60 : wr.heap.size < WW6.heap.size := by subst hWW6; first | omega | (simp; done) | (simp; omega)
      clear hWW6
      have bW := HB.out.trans (bw6.mono HB.out.size)
      have K := (HA.below bW h5).ext (Nat.lt_of_lt_of_le h5 bW.size)
      have c0 := fun y => (ext_cell WW6 y (p := ⟨wr.heap.size, 0, none⟩) lW60).trans e60
      have c1 := fun y => (ext_cell WW6 y (p := ⟨wr.heap.size, 1, none⟩) lW60).trans e61
      have HR := Lib.hid (fun y => HRK.out 1 (ext WW6 y) (below2 bW (ext_below WW6 y)))
      have HBW := Lib.hid bW
      have x0 := fun y => (K y).1; have x1 := fun y => (K y).2.1; have x2 := fun y => (K y).2.2.1; have x3 := fun y => (K y).2.2.2.1; have x4 := fun y => (K y).2.2.2.2.1; have x5 := fun y => (K y).2.2.2.2.2.1; have x6 := fun y => (K y).2.2.2.2.2.2.1; have x7 := fun y => (K y).2.2.2.2.2.2.2.1; have x8 := fun y => (K y).2.2.2.2.2.2.2.2.1; have x9 := fun y => (K y).2.2.2.2.2.2.2.2.2
      clear K bW
      obtain ⟨rr, hrr⟩ : ∃ r, rkRank l j 1 s = r := ⟨_, rfl⟩
      rw [hrr] at HR HS HY
      have HRR := Lib.hid hrr
      clear hrr
      cases hcc : rkCounts a 1 with
      | false =>
        have HC0 := HC.out
        rw [hcc] at HC0
        clear HC
        have HC := Lib.hid HC0
        have HCC := Lib.hid hcc
        clear HC0 hcc
        refine wp_region_ext (by kernel_rfl) (by kernel_rfl) ?_
        repeat (go_big_quiet_step ((first | (go_at_call 38; with_reducible exact qe (HC.out _)) | (go_at_call 45; with_reducible exact qe (HR.out _)))))
        refine wpQuiet_nil ?_
        intro _ hw'
        obtain ⟨gx, hw3⟩ := hw'
        subst hw3
        clear x0 x1 x2 x3 x4 x5 x6 x7 x8 x9 c0 c1
        go_wp2_with fail
        go_roundw
        case rel => exact ⟨1, by omega, by go_num, HS.out false HCC.out (Or.inl rfl), below2 HBW.out (ext_below _ gx)⟩
        case measure => simp [intOf]
      | true =>
        have HC0 := HC.out
        rw [hcc] at HC0
        clear HC
        have HC := Lib.hid HC0
        have HCC := Lib.hid hcc
        clear HC0 hcc
        by_cases hlt : rr < q.group
        · refine wp_region_ext (by kernel_rfl) (by kernel_rfl) ?_
          repeat (go_big_quiet_step ((first | (go_at_call 38; with_reducible exact qe (HC.out _)) | (go_at_call 45; with_reducible exact qe (HR.out _)))))
          refine wpQuiet_nil ?_
          intro _ hw'
          obtain ⟨gx, hw3⟩ := hw'
          subst hw3
          clear x0 x1 x2 x3 x4 x5 x6 x7 x8 x9 c0 c1
          go_wp2_with fail
          go_ret
          exact ⟨by rw [shIn_one HJ.out (b := 1) (by omega) (by omega) (HY.out HCC.out hlt)]; rfl, below2 HBW.out (ext_below _ gx)⟩
        · refine wp_region_ext (by kernel_rfl) (by kernel_rfl) ?_
          repeat (go_big_quiet_step ((first | (go_at_call 38; with_reducible exact qe (HC.out _)) | (go_at_call 45; with_reducible exact qe (HR.out _)))))
          refine wpQuiet_nil ?_
          intro _ hw'
          obtain ⟨gx, hw3⟩ := hw'
          subst hw3
          clear x0 x1 x2 x3 x4 x5 x6 x7 x8 x9 c0 c1
          have HLT := Lib.hid hlt
          go_wp2_with fail
          go_roundw
          case rel => exact ⟨1, by omega, by go_num, HS.out true HCC.out (Or.inr (by have := HLT.out; omega)), below2 HBW.out (ext_below _ gx)⟩
          case measure => simp [intOf]
    · have HC := Lib.hid (fun w => rk_counts_any a 2 w)
      have HS : Hid (∀ c, rkCounts a 2 = c → (c = false ∨ ¬ rkRank l j 2 s < q.ping) → ∀ b : Nat, 1 ≤ b → b ≤ 2 → inB l q s j b = false) := fun c hc h b h1 h2 => by
        rcases Nat.lt_or_ge b 2 with h3 | h3
        · exact HN.out b h1 (by omega)
        · obtain rfl : b = 2 := by omega
          exact inB_no (by rw [HG.out]; exact hc) h
      have HY : Hid (rkCounts a 2 = true → rkRank l j 2 s < q.ping → inB l q s j 2 = true) := fun hc h => inB_yes (by rw [HG.out]; exact hc) h
      simp only [show ((1 : Nat) : Int) = 1 from rfl]
      have hix := fun (W : World) => (show (Instr.index 98 (.agg #[.int .i64 1, .int .i64 q.group, .int .i64 2, .int .i64 q.ping, .int .i64 3, .int .i64 q.work, .int .i64 4, .int .i64 q.time]) (.int .i64 1)).run Try.prog W = .ok (.agg #[.int .i64 2, .int .i64 q.ping]) W by kernel_rfl)
      go_upto_region 6 with fail
      clear hix
      go_name_world WW6 hWW6
      have e60 : WW6.cell? ⟨wr.heap.size, 0, none⟩ = some (.int .i64 2) := by subst hWW6; (first | (simp (disch := first | omega | (simp; omega)) [World.cell?_alloc_past, World.frozen?_alloc_past, *]; done) | (simp (disch := first | omega | (simp; omega)) [World.cell?_setCell_far, World.cell?_alloc_past, *]; done) | (simp (disch := first | omega | (simp; omega)) [World.cell?_alloc_past, World.frozen?_alloc_past, *]; rfl) | (simp (disch := first | omega | (simp; omega)) [World.cell?_setCell_far, World.cell?_alloc_past, *]; rfl) | (simp [go_sem, *]; done) | (simp (disch := first | omega | (simp; omega) | (simp [go_sem, *]; done)) [go_sem, World.cell?_setCell_far, World.cell?_alloc_past, World.frozen?_alloc_past, *]; done))
      have e61 : WW6.cell? ⟨wr.heap.size, 1, none⟩ = some (.int .i64 q.ping) := by subst hWW6; (first | (simp (disch := first | omega | (simp; omega)) [World.cell?_alloc_past, World.frozen?_alloc_past, *]; done) | (simp (disch := first | omega | (simp; omega)) [World.cell?_setCell_far, World.cell?_alloc_past, *]; done) | (simp (disch := first | omega | (simp; omega)) [World.cell?_alloc_past, World.frozen?_alloc_past, *]; rfl) | (simp (disch := first | omega | (simp; omega)) [World.cell?_setCell_far, World.cell?_alloc_past, *]; rfl) | (simp [go_sem, *]; done) | (simp (disch := first | omega | (simp; omega) | (simp [go_sem, *]; done)) [go_sem, World.cell?_setCell_far, World.cell?_alloc_past, World.frozen?_alloc_past, *]; done))
      have bw6 : Below wr.heap.size wr WW6 := by subst hWW6; (repeat (first | assumption | exact Below.refl _ _ | refine Below.setCell ?_ (by first | omega | (simp; done) | (simp; omega)) _ | refine Below.alloc ?_ (by first | omega | (simp; done) | (simp; omega)) _ | refine Below.drew ?_ | (refine Below.trans ?_ (Below.mono (by assumption) (by first | omega | (simp; done) | (simp; omega))))))
      have zw6 : _ := bw6.size
      have lW60 : wr.heap.size < WW6.heap.size := by subst hWW6; first | omega | (simp; done) | (simp; omega)
      clear hWW6
      have bW := HB.out.trans (bw6.mono HB.out.size)
      have K := (HA.below bW h5).ext (Nat.lt_of_lt_of_le h5 bW.size)
      have c0 := fun y => (ext_cell WW6 y (p := ⟨wr.heap.size, 0, none⟩) lW60).trans e60
      have c1 := fun y => (ext_cell WW6 y (p := ⟨wr.heap.size, 1, none⟩) lW60).trans e61
      have HR := Lib.hid (fun y => HRK.out 2 (ext WW6 y) (below2 bW (ext_below WW6 y)))
      have HBW := Lib.hid bW
      have x0 := fun y => (K y).1; have x1 := fun y => (K y).2.1; have x2 := fun y => (K y).2.2.1; have x3 := fun y => (K y).2.2.2.1; have x4 := fun y => (K y).2.2.2.2.1; have x5 := fun y => (K y).2.2.2.2.2.1; have x6 := fun y => (K y).2.2.2.2.2.2.1; have x7 := fun y => (K y).2.2.2.2.2.2.2.1; have x8 := fun y => (K y).2.2.2.2.2.2.2.2.1; have x9 := fun y => (K y).2.2.2.2.2.2.2.2.2
      clear K bW
      obtain ⟨rr, hrr⟩ : ∃ r, rkRank l j 2 s = r := ⟨_, rfl⟩
      rw [hrr] at HR HS HY
      have HRR := Lib.hid hrr
      clear hrr
      cases hcc : rkCounts a 2 with
      | false =>
        have HC0 := HC.out
        rw [hcc] at HC0
        clear HC
        have HC := Lib.hid HC0
        have HCC := Lib.hid hcc
        clear HC0 hcc
        refine wp_region_ext (by kernel_rfl) (by kernel_rfl) ?_
        repeat (go_big_quiet_step ((first | (go_at_call 38; with_reducible exact qe (HC.out _)) | (go_at_call 45; with_reducible exact qe (HR.out _)))))
        refine wpQuiet_nil ?_
        intro _ hw'
        obtain ⟨gx, hw3⟩ := hw'
        subst hw3
        clear x0 x1 x2 x3 x4 x5 x6 x7 x8 x9 c0 c1
        go_wp2_with fail
        go_roundw
        case rel => exact ⟨2, by omega, by go_num, HS.out false HCC.out (Or.inl rfl), below2 HBW.out (ext_below _ gx)⟩
        case measure => simp [intOf]
      | true =>
        have HC0 := HC.out
        rw [hcc] at HC0
        clear HC
        have HC := Lib.hid HC0
        have HCC := Lib.hid hcc
        clear HC0 hcc
        by_cases hlt : rr < q.ping
        · refine wp_region_ext (by kernel_rfl) (by kernel_rfl) ?_
          repeat (go_big_quiet_step ((first | (go_at_call 38; with_reducible exact qe (HC.out _)) | (go_at_call 45; with_reducible exact qe (HR.out _)))))
          refine wpQuiet_nil ?_
          intro _ hw'
          obtain ⟨gx, hw3⟩ := hw'
          subst hw3
          clear x0 x1 x2 x3 x4 x5 x6 x7 x8 x9 c0 c1
          go_wp2_with fail
          go_ret
          exact ⟨by rw [shIn_one HJ.out (b := 2) (by omega) (by omega) (HY.out HCC.out hlt)]; rfl, below2 HBW.out (ext_below _ gx)⟩
        · refine wp_region_ext (by kernel_rfl) (by kernel_rfl) ?_
          repeat (go_big_quiet_step ((first | (go_at_call 38; with_reducible exact qe (HC.out _)) | (go_at_call 45; with_reducible exact qe (HR.out _)))))
          refine wpQuiet_nil ?_
          intro _ hw'
          obtain ⟨gx, hw3⟩ := hw'
          subst hw3
          clear x0 x1 x2 x3 x4 x5 x6 x7 x8 x9 c0 c1
          have HLT := Lib.hid hlt
          go_wp2_with fail
          go_roundw
          case rel => exact ⟨2, by omega, by go_num, HS.out true HCC.out (Or.inr (by have := HLT.out; omega)), below2 HBW.out (ext_below _ gx)⟩
          case measure => simp [intOf]
    · have HC := Lib.hid (fun w => rk_counts_any a 3 w)
      have HS : Hid (∀ c, rkCounts a 3 = c → (c = false ∨ ¬ rkRank l j 3 s < q.work) → ∀ b : Nat, 1 ≤ b → b ≤ 3 → inB l q s j b = false) := fun c hc h b h1 h2 => by
        rcases Nat.lt_or_ge b 3 with h3 | h3
        · exact HN.out b h1 (by omega)
        · obtain rfl : b = 3 := by omega
          exact inB_no (by rw [HG.out]; exact hc) h
      have HY : Hid (rkCounts a 3 = true → rkRank l j 3 s < q.work → inB l q s j 3 = true) := fun hc h => inB_yes (by rw [HG.out]; exact hc) h
      simp only [show ((2 : Nat) : Int) = 2 from rfl]
      have hix := fun (W : World) => (show (Instr.index 98 (.agg #[.int .i64 1, .int .i64 q.group, .int .i64 2, .int .i64 q.ping, .int .i64 3, .int .i64 q.work, .int .i64 4, .int .i64 q.time]) (.int .i64 2)).run Try.prog W = .ok (.agg #[.int .i64 3, .int .i64 q.work]) W by kernel_rfl)
      go_upto_region 6 with fail
      clear hix
      go_name_world WW6 hWW6
      have e60 : WW6.cell? ⟨wr.heap.size, 0, none⟩ = some (.int .i64 3) := by subst hWW6; (first | (simp (disch := first | omega | (simp; omega)) [World.cell?_alloc_past, World.frozen?_alloc_past, *]; done) | (simp (disch := first | omega | (simp; omega)) [World.cell?_setCell_far, World.cell?_alloc_past, *]; done) | (simp (disch := first | omega | (simp; omega)) [World.cell?_alloc_past, World.frozen?_alloc_past, *]; rfl) | (simp (disch := first | omega | (simp; omega)) [World.cell?_setCell_far, World.cell?_alloc_past, *]; rfl) | (simp [go_sem, *]; done) | (simp (disch := first | omega | (simp; omega) | (simp [go_sem, *]; done)) [go_sem, World.cell?_setCell_far, World.cell?_alloc_past, World.frozen?_alloc_past, *]; done))
      have e61 : WW6.cell? ⟨wr.heap.size, 1, none⟩ = some (.int .i64 q.work) := by subst hWW6; (first | (simp (disch := first | omega | (simp; omega)) [World.cell?_alloc_past, World.frozen?_alloc_past, *]; done) | (simp (disch := first | omega | (simp; omega)) [World.cell?_setCell_far, World.cell?_alloc_past, *]; done) | (simp (disch := first | omega | (simp; omega)) [World.cell?_alloc_past, World.frozen?_alloc_past, *]; rfl) | (simp (disch := first | omega | (simp; omega)) [World.cell?_setCell_far, World.cell?_alloc_past, *]; rfl) | (simp [go_sem, *]; done) | (simp (disch := first | omega | (simp; omega) | (simp [go_sem, *]; done)) [go_sem, World.cell?_setCell_far, World.cell?_alloc_past, World.frozen?_alloc_past, *]; done))
      have bw6 : Below wr.heap.size wr WW6 := by subst hWW6; (repeat (first | assumption | exact Below.refl _ _ | refine Below.setCell ?_ (by first | omega | (simp; done) | (simp; omega)) _ | refine Below.alloc ?_ (by first | omega | (simp; done) | (simp; omega)) _ | refine Below.drew ?_ | (refine Below.trans ?_ (Below.mono (by assumption) (by first | omega | (simp; done) | (simp; omega))))))
      have zw6 : _ := bw6.size
      have lW60 : wr.heap.size < WW6.heap.size := by subst hWW6; first | omega | (simp; done) | (simp; omega)
      clear hWW6
      have bW := HB.out.trans (bw6.mono HB.out.size)
      have K := (HA.below bW h5).ext (Nat.lt_of_lt_of_le h5 bW.size)
      have c0 := fun y => (ext_cell WW6 y (p := ⟨wr.heap.size, 0, none⟩) lW60).trans e60
      have c1 := fun y => (ext_cell WW6 y (p := ⟨wr.heap.size, 1, none⟩) lW60).trans e61
      have HR := Lib.hid (fun y => HRK.out 3 (ext WW6 y) (below2 bW (ext_below WW6 y)))
      have HBW := Lib.hid bW
      have x0 := fun y => (K y).1; have x1 := fun y => (K y).2.1; have x2 := fun y => (K y).2.2.1; have x3 := fun y => (K y).2.2.2.1; have x4 := fun y => (K y).2.2.2.2.1; have x5 := fun y => (K y).2.2.2.2.2.1; have x6 := fun y => (K y).2.2.2.2.2.2.1; have x7 := fun y => (K y).2.2.2.2.2.2.2.1; have x8 := fun y => (K y).2.2.2.2.2.2.2.2.1; have x9 := fun y => (K y).2.2.2.2.2.2.2.2.2
      clear K bW
      obtain ⟨rr, hrr⟩ : ∃ r, rkRank l j 3 s = r := ⟨_, rfl⟩
      rw [hrr] at HR HS HY
      have HRR := Lib.hid hrr
      clear hrr
      cases hcc : rkCounts a 3 with
      | false =>
        have HC0 := HC.out
        rw [hcc] at HC0
        clear HC
        have HC := Lib.hid HC0
        have HCC := Lib.hid hcc
        clear HC0 hcc
        refine wp_region_ext (by kernel_rfl) (by kernel_rfl) ?_
        repeat (go_big_quiet_step ((first | (go_at_call 38; with_reducible exact qe (HC.out _)) | (go_at_call 45; with_reducible exact qe (HR.out _)))))
        refine wpQuiet_nil ?_
        intro _ hw'
        obtain ⟨gx, hw3⟩ := hw'
        subst hw3
        clear x0 x1 x2 x3 x4 x5 x6 x7 x8 x9 c0 c1
        go_wp2_with fail
        go_roundw
        case rel => exact ⟨3, by omega, by go_num, HS.out false HCC.out (Or.inl rfl), below2 HBW.out (ext_below _ gx)⟩
        case measure => simp [intOf]
      | true =>
        have HC0 := HC.out
        rw [hcc] at HC0
        clear HC
        have HC := Lib.hid HC0
        have HCC := Lib.hid hcc
        clear HC0 hcc
        by_cases hlt : rr < q.work
        · refine wp_region_ext (by kernel_rfl) (by kernel_rfl) ?_
          repeat (go_big_quiet_step ((first | (go_at_call 38; with_reducible exact qe (HC.out _)) | (go_at_call 45; with_reducible exact qe (HR.out _)))))
          refine wpQuiet_nil ?_
          intro _ hw'
          obtain ⟨gx, hw3⟩ := hw'
          subst hw3
          clear x0 x1 x2 x3 x4 x5 x6 x7 x8 x9 c0 c1
          go_wp2_with fail
          go_ret
          exact ⟨by rw [shIn_one HJ.out (b := 3) (by omega) (by omega) (HY.out HCC.out hlt)]; rfl, below2 HBW.out (ext_below _ gx)⟩
        · refine wp_region_ext (by kernel_rfl) (by kernel_rfl) ?_
          repeat (go_big_quiet_step ((first | (go_at_call 38; with_reducible exact qe (HC.out _)) | (go_at_call 45; with_reducible exact qe (HR.out _)))))
          refine wpQuiet_nil ?_
          intro _ hw'
          obtain ⟨gx, hw3⟩ := hw'
          subst hw3
          clear x0 x1 x2 x3 x4 x5 x6 x7 x8 x9 c0 c1
          have HLT := Lib.hid hlt
          go_wp2_with fail
          go_roundw
          case rel => exact ⟨3, by omega, by go_num, HS.out true HCC.out (Or.inr (by have := HLT.out; omega)), below2 HBW.out (ext_below _ gx)⟩
          case measure => simp [intOf]
    · have HC := Lib.hid (fun w => rk_counts_any a 4 w)
      have HS : Hid (∀ c, rkCounts a 4 = c → (c = false ∨ ¬ rkRank l j 4 s < q.time) → ∀ b : Nat, 1 ≤ b → b ≤ 4 → inB l q s j b = false) := fun c hc h b h1 h2 => by
        rcases Nat.lt_or_ge b 4 with h3 | h3
        · exact HN.out b h1 (by omega)
        · obtain rfl : b = 4 := by omega
          exact inB_no (by rw [HG.out]; exact hc) h
      have HY : Hid (rkCounts a 4 = true → rkRank l j 4 s < q.time → inB l q s j 4 = true) := fun hc h => inB_yes (by rw [HG.out]; exact hc) h
      simp only [show ((3 : Nat) : Int) = 3 from rfl]
      have hix := fun (W : World) => (show (Instr.index 98 (.agg #[.int .i64 1, .int .i64 q.group, .int .i64 2, .int .i64 q.ping, .int .i64 3, .int .i64 q.work, .int .i64 4, .int .i64 q.time]) (.int .i64 3)).run Try.prog W = .ok (.agg #[.int .i64 4, .int .i64 q.time]) W by kernel_rfl)
      go_upto_region 6 with fail
      clear hix
      go_name_world WW6 hWW6
      have e60 : WW6.cell? ⟨wr.heap.size, 0, none⟩ = some (.int .i64 4) := by subst hWW6; (first | (simp (disch := first | omega | (simp; omega)) [World.cell?_alloc_past, World.frozen?_alloc_past, *]; done) | (simp (disch := first | omega | (simp; omega)) [World.cell?_setCell_far, World.cell?_alloc_past, *]; done) | (simp (disch := first | omega | (simp; omega)) [World.cell?_alloc_past, World.frozen?_alloc_past, *]; rfl) | (simp (disch := first | omega | (simp; omega)) [World.cell?_setCell_far, World.cell?_alloc_past, *]; rfl) | (simp [go_sem, *]; done) | (simp (disch := first | omega | (simp; omega) | (simp [go_sem, *]; done)) [go_sem, World.cell?_setCell_far, World.cell?_alloc_past, World.frozen?_alloc_past, *]; done))
      have e61 : WW6.cell? ⟨wr.heap.size, 1, none⟩ = some (.int .i64 q.time) := by subst hWW6; (first | (simp (disch := first | omega | (simp; omega)) [World.cell?_alloc_past, World.frozen?_alloc_past, *]; done) | (simp (disch := first | omega | (simp; omega)) [World.cell?_setCell_far, World.cell?_alloc_past, *]; done) | (simp (disch := first | omega | (simp; omega)) [World.cell?_alloc_past, World.frozen?_alloc_past, *]; rfl) | (simp (disch := first | omega | (simp; omega)) [World.cell?_setCell_far, World.cell?_alloc_past, *]; rfl) | (simp [go_sem, *]; done) | (simp (disch := first | omega | (simp; omega) | (simp [go_sem, *]; done)) [go_sem, World.cell?_setCell_far, World.cell?_alloc_past, World.frozen?_alloc_past, *]; done))
      have bw6 : Below wr.heap.size wr WW6 := by subst hWW6; (repeat (first | assumption | exact Below.refl _ _ | refine Below.setCell ?_ (by first | omega | (simp; done) | (simp; omega)) _ | refine Below.alloc ?_ (by first | omega | (simp; done) | (simp; omega)) _ | refine Below.drew ?_ | (refine Below.trans ?_ (Below.mono (by assumption) (by first | omega | (simp; done) | (simp; omega))))))
      have zw6 : _ := bw6.size
      have lW60 : wr.heap.size < WW6.heap.size := by subst hWW6; first | omega | (simp; done) | (simp; omega)
      clear hWW6
      have bW := HB.out.trans (bw6.mono HB.out.size)
      have K := (HA.below bW h5).ext (Nat.lt_of_lt_of_le h5 bW.size)
      have c0 := fun y => (ext_cell WW6 y (p := ⟨wr.heap.size, 0, none⟩) lW60).trans e60
      have c1 := fun y => (ext_cell WW6 y (p := ⟨wr.heap.size, 1, none⟩) lW60).trans e61
      have HR := Lib.hid (fun y => HRK.out 4 (ext WW6 y) (below2 bW (ext_below WW6 y)))
      have HBW := Lib.hid bW
      have x0 := fun y => (K y).1; have x1 := fun y => (K y).2.1; have x2 := fun y => (K y).2.2.1; have x3 := fun y => (K y).2.2.2.1; have x4 := fun y => (K y).2.2.2.2.1; have x5 := fun y => (K y).2.2.2.2.2.1; have x6 := fun y => (K y).2.2.2.2.2.2.1; have x7 := fun y => (K y).2.2.2.2.2.2.2.1; have x8 := fun y => (K y).2.2.2.2.2.2.2.2.1; have x9 := fun y => (K y).2.2.2.2.2.2.2.2.2
      clear K bW
      obtain ⟨rr, hrr⟩ : ∃ r, rkRank l j 4 s = r := ⟨_, rfl⟩
      rw [hrr] at HR HS HY
      have HRR := Lib.hid hrr
      clear hrr
      cases hcc : rkCounts a 4 with
      | false =>
        have HC0 := HC.out
        rw [hcc] at HC0
        clear HC
        have HC := Lib.hid HC0
        have HCC := Lib.hid hcc
        clear HC0 hcc
        refine wp_region_ext (by kernel_rfl) (by kernel_rfl) ?_
        repeat (go_big_quiet_step ((first | (go_at_call 38; with_reducible exact qe (HC.out _)) | (go_at_call 45; with_reducible exact qe (HR.out _)))))
        refine wpQuiet_nil ?_
        intro _ hw'
        obtain ⟨gx, hw3⟩ := hw'
        subst hw3
        clear x0 x1 x2 x3 x4 x5 x6 x7 x8 x9 c0 c1
        go_wp2_with fail
        go_roundw
        case rel => exact ⟨4, by omega, by go_num, HS.out false HCC.out (Or.inl rfl), below2 HBW.out (ext_below _ gx)⟩
        case measure => simp [intOf]
      | true =>
        have HC0 := HC.out
        rw [hcc] at HC0
        clear HC
        have HC := Lib.hid HC0
        have HCC := Lib.hid hcc
        clear HC0 hcc
        by_cases hlt : rr < q.time
        · refine wp_region_ext (by kernel_rfl) (by kernel_rfl) ?_
          repeat (go_big_quiet_step ((first | (go_at_call 38; with_reducible exact qe (HC.out _)) | (go_at_call 45; with_reducible exact qe (HR.out _)))))
          refine wpQuiet_nil ?_
          intro _ hw'
          obtain ⟨gx, hw3⟩ := hw'
          subst hw3
          clear x0 x1 x2 x3 x4 x5 x6 x7 x8 x9 c0 c1
          go_wp2_with fail
          go_ret
          exact ⟨by rw [shIn_one HJ.out (b := 4) (by omega) (by omega) (HY.out HCC.out hlt)]; rfl, below2 HBW.out (ext_below _ gx)⟩
        · refine wp_region_ext (by kernel_rfl) (by kernel_rfl) ?_
          repeat (go_big_quiet_step ((first | (go_at_call 38; with_reducible exact qe (HC.out _)) | (go_at_call 45; with_reducible exact qe (HR.out _)))))
          refine wpQuiet_nil ?_
          intro _ hw'
          obtain ⟨gx, hw3⟩ := hw'
          subst hw3
          clear x0 x1 x2 x3 x4 x5 x6 x7 x8 x9 c0 c1
          have HLT := Lib.hid hlt
          go_wp2_with fail
          go_roundw
          case rel => exact ⟨4, by omega, by go_num, HS.out true HCC.out (Or.inr (by have := HLT.out; omega)), below2 HBW.out (ext_below _ gx)⟩
          case measure => simp [intOf]
set_option maxRecDepth 100000 in
set_option maxHeartbeats 8000000 in
theorem ref_inside_any (v : Value) (l : List Pe) (hl : ∀ x ∈ l, x.fits) (i : Int) (q : Qu) (s : Nat) (hs : s < 18446744073709551616) (w : World) (h : ReadsL peV 10 w v l) (hn : l.length ≤ 1000000) :
    Calls Try.prog 49 #[v, .int .i64 i, .agg #[.int .i64 q.group, .int .i64 q.ping, .int .i64 q.work, .int .i64 q.time], .int .u64 s] w fun e w' => e = .returned (.bool (shIn l i q s)) ∧ Below w.heap.size w w' := by
  have h0 := h
  obtain ⟨hm, p, c, rfl, h3⟩ := pes_open h
  clear h
  by_cases h1 : i < 0
  · rw [shIn_out (Or.inl h1)]
    go_enter Try.func49, Try.ntmps49
    go_wp2_with fail
    go_ret
    exact ⟨rfl, by (repeat (first | with_reducible assumption | with_reducible exact Below.refl _ _ | with_reducible refine Below.setCell ?_ (by first | omega | (simp; done) | (simp; omega)) _ | with_reducible refine Below.alloc ?_ (by first | omega | (simp; done) | (simp; omega)) _ | with_reducible refine Below.drew ?_ | (with_reducible refine Below.trans ?_ (Below.mono (by with_reducible assumption) (by first | omega | (simp; done) | (simp; omega)))) | (refine Below.trans ?_ (Below.mono (by assumption) (by first | omega | (simp; done) | (simp; omega))))))⟩
  by_cases h2 : (l.length : Int) ≤ i
  · rw [shIn_out (Or.inr h2)]
    go_enter Try.func49, Try.ntmps49
    go_wp2_with fail
    go_ret
    exact ⟨rfl, by (repeat (first | with_reducible assumption | with_reducible exact Below.refl _ _ | with_reducible refine Below.setCell ?_ (by first | omega | (simp; done) | (simp; omega)) _ | with_reducible refine Below.alloc ?_ (by first | omega | (simp; done) | (simp; omega)) _ | with_reducible refine Below.drew ?_ | (with_reducible refine Below.trans ?_ (Below.mono (by with_reducible assumption) (by first | omega | (simp; done) | (simp; omega)))) | (refine Below.trans ?_ (Below.mono (by assumption) (by first | omega | (simp; done) | (simp; omega))))))⟩
  obtain ⟨j, rfl⟩ : ∃ j : Nat, i = j := ⟨i.toNat, by omega⟩
  have hj : j < l.length := by omega
  have HJ := Lib.hid hj
  obtain ⟨a, hja⟩ : ∃ a, l[j]? = some a := ⟨_, List.getElem?_eq_getElem hj⟩
  have HG := Lib.hid (rkGet_at hja)
  obtain ⟨b, o, rfl, h4, h5, h6⟩ := h3 (by omega)
  have HA := h6 j a hja
  have q1 : (0 : Int) ≤ (j : Int) := by omega
  have q2 : (j : Int) < (l.length : Int) := by omega
  clear h3 hja h6 hj
  have HRK := Lib.hid (fun (z : Int) (W : World) (hW : Below w.heap.size w W) => ref_rank_any _ l hl j z s hs W (Reads.below h0 hW) hn)
  go_enter Try.func49, Try.ntmps49
  have HQ := Lib.hid (fun b w => refQuota_any q b w)
  go_upto_region 4 with fail
  go_name_world WW0 hWW0
  have e00 : WW0.cell? ⟨w.heap.size, 0, none⟩ = some (.int .i64 q.group) := by subst hWW0; (first | (simp (disch := first | omega | (simp; omega)) [World.cell?_alloc_past, World.frozen?_alloc_past, *]; done) | (simp (disch := first | omega | (simp; omega)) [World.cell?_setCell_far, World.cell?_alloc_past, *]; done) | (simp (disch := first | omega | (simp; omega)) [World.cell?_alloc_past, World.frozen?_alloc_past, *]; rfl) | (simp (disch := first | omega | (simp; omega)) [World.cell?_setCell_far, World.cell?_alloc_past, *]; rfl) | (simp [go_sem, *]; done) | (simp (disch := first | omega | (simp; omega) | (simp [go_sem, *]; done)) [go_sem, World.cell?_setCell_far, World.cell?_alloc_past, World.frozen?_alloc_past, *]; done))
  have e01 : WW0.cell? ⟨w.heap.size, 1, none⟩ = some (.int .i64 q.ping) := by subst hWW0; (first | (simp (disch := first | omega | (simp; omega)) [World.cell?_alloc_past, World.frozen?_alloc_past, *]; done) | (simp (disch := first | omega | (simp; omega)) [World.cell?_setCell_far, World.cell?_alloc_past, *]; done) | (simp (disch := first | omega | (simp; omega)) [World.cell?_alloc_past, World.frozen?_alloc_past, *]; rfl) | (simp (disch := first | omega | (simp; omega)) [World.cell?_setCell_far, World.cell?_alloc_past, *]; rfl) | (simp [go_sem, *]; done) | (simp (disch := first | omega | (simp; omega) | (simp [go_sem, *]; done)) [go_sem, World.cell?_setCell_far, World.cell?_alloc_past, World.frozen?_alloc_past, *]; done))
  have e02 : WW0.cell? ⟨w.heap.size, 2, none⟩ = some (.int .i64 q.work) := by subst hWW0; (first | (simp (disch := first | omega | (simp; omega)) [World.cell?_alloc_past, World.frozen?_alloc_past, *]; done) | (simp (disch := first | omega | (simp; omega)) [World.cell?_setCell_far, World.cell?_alloc_past, *]; done) | (simp (disch := first | omega | (simp; omega)) [World.cell?_alloc_past, World.frozen?_alloc_past, *]; rfl) | (simp (disch := first | omega | (simp; omega)) [World.cell?_setCell_far, World.cell?_alloc_past, *]; rfl) | (simp [go_sem, *]; done) | (simp (disch := first | omega | (simp; omega) | (simp [go_sem, *]; done)) [go_sem, World.cell?_setCell_far, World.cell?_alloc_past, World.frozen?_alloc_past, *]; done))
  have e03 : WW0.cell? ⟨w.heap.size, 3, none⟩ = some (.int .i64 q.time) := by subst hWW0; (first | (simp (disch := first | omega | (simp; omega)) [World.cell?_alloc_past, World.frozen?_alloc_past, *]; done) | (simp (disch := first | omega | (simp; omega)) [World.cell?_setCell_far, World.cell?_alloc_past, *]; done) | (simp (disch := first | omega | (simp; omega)) [World.cell?_alloc_past, World.frozen?_alloc_past, *]; rfl) | (simp (disch := first | omega | (simp; omega)) [World.cell?_setCell_far, World.cell?_alloc_past, *]; rfl) | (simp [go_sem, *]; done) | (simp (disch := first | omega | (simp; omega) | (simp [go_sem, *]; done)) [go_sem, World.cell?_setCell_far, World.cell?_alloc_past, World.frozen?_alloc_past, *]; done))
  have bw0 : Below w.heap.size w WW0 := by subst hWW0; (repeat (first | assumption | exact Below.refl _ _ | refine Below.setCell ?_ (by first | omega | (simp; done) | (simp; omega)) _ | refine Below.alloc ?_ (by first | omega | (simp; done) | (simp; omega)) _ | refine Below.drew ?_ | (refine Below.trans ?_ (Below.mono (by assumption) (by first | omega | (simp; done) | (simp; omega))))))
  have zw0 : _ := bw0.size
  have lW00 : w.heap.size < WW0.heap.size := by subst hWW0; first | omega | (simp; done) | (simp; omega)
  clear hWW0
  have HB4 := Lib.hid bw0
  go_loopw [9] (fun i' wr => ∃ k : Nat, k ≤ 4 ∧ i' = .int .i64 ((k : Int) + 1) ∧ Hid (∀ b : Nat, 1 ≤ b → b ≤ k → inB l q s j b = false) ∧ Hid (Below WW0.heap.size WW0 wr)) (fun i' _ => 5 - (intOf i').toNat)
  case atStart => exact ⟨0, by omega, rfl, fun b _ _ => by omega, Below.refl _ _⟩
  case round =>
    obtain ⟨k, hk, rfl, HN, HB2⟩ := hrel
    rcases (show k = 4 ∨ k = 0 ∨ k = 1 ∨ k = 2 ∨ k = 3 by omega) with rfl | rfl | rfl | rfl | rfl
    · go_wp2_with fail
      go_ret
      exact ⟨by rw [shIn_none HJ.out (fun b h1 h4 => HN.out b h1 h4)]; rfl, HB4.out.trans (HB2.out.mono HB4.out.size)⟩
    · have HC := Lib.hid (fun w => ref_counts_any a 1 w)
      have HS : Hid (∀ c, rkCounts a 1 = c → (c = false ∨ ¬ rkRank l j 1 s < q.group) → ∀ b : Nat, 1 ≤ b → b ≤ 1 → inB l q s j b = false) := fun c hc h b h1 h2 => by
        rcases Nat.lt_or_ge b 1 with h3 | h3
        · exact HN.out b h1 (by omega)
        · obtain rfl : b = 1 := by omega
          exact inB_no (by rw [HG.out]; exact hc) h
      have HY : Hid (rkCounts a 1 = true → rkRank l j 1 s < q.group → inB l q s j 1 = true) := fun hc h => inB_yes (by rw [HG.out]; exact hc) h
      go_wp2_with fail
      have bW := HB4.out.trans (HB2.out.mono HB4.out.size)
      have K := (HA.below bW h5).ext (Nat.lt_of_lt_of_le h5 bW.size)
      have c0 := fun y => (ext_cell wr y (p := ⟨w.heap.size, 0, none⟩) (Nat.lt_of_lt_of_le lW00 HB2.out.size)).trans (keep HB2.out lW00 e00)
      have c1 := fun y => (ext_cell wr y (p := ⟨w.heap.size, 1, none⟩) (Nat.lt_of_lt_of_le lW00 HB2.out.size)).trans (keep HB2.out lW00 e01)
      have c2 := fun y => (ext_cell wr y (p := ⟨w.heap.size, 2, none⟩) (Nat.lt_of_lt_of_le lW00 HB2.out.size)).trans (keep HB2.out lW00 e02)
      have c3 := fun y => (ext_cell wr y (p := ⟨w.heap.size, 3, none⟩) (Nat.lt_of_lt_of_le lW00 HB2.out.size)).trans (keep HB2.out lW00 e03)
      have HQ2 : Hid (∀ w, Calls Try.prog 94 #[.agg #[.int .i64 q.group, .int .i64 q.ping, .int .i64 q.work, .int .i64 q.time], .int .i64 1] w fun e w' => e = .returned (.int .i64 q.group) ∧ Below w.heap.size w w') := fun w => HQ.out 1 w
      have HR := Lib.hid (fun y => HRK.out 1 (ext wr y) (below2 bW (ext_below wr y)))
      have HBW := Lib.hid bW
      have x0 := fun y => (K y).1; have x1 := fun y => (K y).2.1; have x2 := fun y => (K y).2.2.1; have x3 := fun y => (K y).2.2.2.1; have x4 := fun y => (K y).2.2.2.2.1; have x5 := fun y => (K y).2.2.2.2.2.1; have x6 := fun y => (K y).2.2.2.2.2.2.1; have x7 := fun y => (K y).2.2.2.2.2.2.2.1; have x8 := fun y => (K y).2.2.2.2.2.2.2.2.1; have x9 := fun y => (K y).2.2.2.2.2.2.2.2.2
      clear K bW
      obtain ⟨rr, hrr⟩ : ∃ r, rkRank l j 1 s = r := ⟨_, rfl⟩
      rw [hrr] at HR HS HY
      have HRR := Lib.hid hrr
      clear hrr
      cases hcc : rkCounts a 1 with
      | false =>
        have HC0 := HC.out
        rw [hcc] at HC0
        clear HC
        have HC := Lib.hid HC0
        have HCC := Lib.hid hcc
        clear HC0 hcc
        refine wp_region_ext (by kernel_rfl) (by kernel_rfl) ?_
        repeat (go_big_quiet_step ((first | (go_at_call 39; with_reducible exact qe (HC.out _)) | (go_at_call 46; with_reducible exact qe (HR.out _)) | (go_at_call 94; with_reducible exact qe (HQ2.out _)))))
        refine wpQuiet_nil ?_
        intro _ hw'
        obtain ⟨gx, hw3⟩ := hw'
        subst hw3
        clear x0 x1 x2 x3 x4 x5 x6 x7 x8 x9 c0 c1
        go_wp2_with fail
        go_roundw
        case rel => exact ⟨1, by omega, by go_num, HS.out false HCC.out (Or.inl rfl), below2 HB2.out (ext_below wr gx)⟩
        case measure => simp [intOf]
      | true =>
        have HC0 := HC.out
        rw [hcc] at HC0
        clear HC
        have HC := Lib.hid HC0
        have HCC := Lib.hid hcc
        clear HC0 hcc
        by_cases hlt : rr < q.group
        · refine wp_region_ext (by kernel_rfl) (by kernel_rfl) ?_
          repeat (go_big_quiet_step ((first | (go_at_call 39; with_reducible exact qe (HC.out _)) | (go_at_call 46; with_reducible exact qe (HR.out _)) | (go_at_call 94; with_reducible exact qe (HQ2.out _)))))
          refine wpQuiet_nil ?_
          intro _ hw'
          obtain ⟨gx, hw3⟩ := hw'
          subst hw3
          clear x0 x1 x2 x3 x4 x5 x6 x7 x8 x9 c0 c1
          go_wp2_with fail
          go_ret
          exact ⟨by rw [shIn_one HJ.out (b := 1) (by omega) (by omega) (HY.out HCC.out hlt)]; rfl, below2 HBW.out (ext_below _ gx)⟩
        · refine wp_region_ext (by kernel_rfl) (by kernel_rfl) ?_
          repeat (go_big_quiet_step ((first | (go_at_call 39; with_reducible exact qe (HC.out _)) | (go_at_call 46; with_reducible exact qe (HR.out _)) | (go_at_call 94; with_reducible exact qe (HQ2.out _)))))
          refine wpQuiet_nil ?_
          intro _ hw'
          obtain ⟨gx, hw3⟩ := hw'
          subst hw3
          clear x0 x1 x2 x3 x4 x5 x6 x7 x8 x9 c0 c1
          have HLT := Lib.hid hlt
          go_wp2_with fail
          go_roundw
          case rel => exact ⟨1, by omega, by go_num, HS.out true HCC.out (Or.inr (by have := HLT.out; omega)), below2 HB2.out (ext_below wr gx)⟩
          case measure => simp [intOf]
    · have HC := Lib.hid (fun w => ref_counts_any a 2 w)
      have HS : Hid (∀ c, rkCounts a 2 = c → (c = false ∨ ¬ rkRank l j 2 s < q.ping) → ∀ b : Nat, 1 ≤ b → b ≤ 2 → inB l q s j b = false) := fun c hc h b h1 h2 => by
        rcases Nat.lt_or_ge b 2 with h3 | h3
        · exact HN.out b h1 (by omega)
        · obtain rfl : b = 2 := by omega
          exact inB_no (by rw [HG.out]; exact hc) h
      have HY : Hid (rkCounts a 2 = true → rkRank l j 2 s < q.ping → inB l q s j 2 = true) := fun hc h => inB_yes (by rw [HG.out]; exact hc) h
      go_wp2_with fail
      have bW := HB4.out.trans (HB2.out.mono HB4.out.size)
      have K := (HA.below bW h5).ext (Nat.lt_of_lt_of_le h5 bW.size)
      have c0 := fun y => (ext_cell wr y (p := ⟨w.heap.size, 0, none⟩) (Nat.lt_of_lt_of_le lW00 HB2.out.size)).trans (keep HB2.out lW00 e00)
      have c1 := fun y => (ext_cell wr y (p := ⟨w.heap.size, 1, none⟩) (Nat.lt_of_lt_of_le lW00 HB2.out.size)).trans (keep HB2.out lW00 e01)
      have c2 := fun y => (ext_cell wr y (p := ⟨w.heap.size, 2, none⟩) (Nat.lt_of_lt_of_le lW00 HB2.out.size)).trans (keep HB2.out lW00 e02)
      have c3 := fun y => (ext_cell wr y (p := ⟨w.heap.size, 3, none⟩) (Nat.lt_of_lt_of_le lW00 HB2.out.size)).trans (keep HB2.out lW00 e03)
      have HQ2 : Hid (∀ w, Calls Try.prog 94 #[.agg #[.int .i64 q.group, .int .i64 q.ping, .int .i64 q.work, .int .i64 q.time], .int .i64 2] w fun e w' => e = .returned (.int .i64 q.ping) ∧ Below w.heap.size w w') := fun w => HQ.out 2 w
      have HR := Lib.hid (fun y => HRK.out 2 (ext wr y) (below2 bW (ext_below wr y)))
      have HBW := Lib.hid bW
      have x0 := fun y => (K y).1; have x1 := fun y => (K y).2.1; have x2 := fun y => (K y).2.2.1; have x3 := fun y => (K y).2.2.2.1; have x4 := fun y => (K y).2.2.2.2.1; have x5 := fun y => (K y).2.2.2.2.2.1; have x6 := fun y => (K y).2.2.2.2.2.2.1; have x7 := fun y => (K y).2.2.2.2.2.2.2.1; have x8 := fun y => (K y).2.2.2.2.2.2.2.2.1; have x9 := fun y => (K y).2.2.2.2.2.2.2.2.2
      clear K bW
      obtain ⟨rr, hrr⟩ : ∃ r, rkRank l j 2 s = r := ⟨_, rfl⟩
      rw [hrr] at HR HS HY
      have HRR := Lib.hid hrr
      clear hrr
      cases hcc : rkCounts a 2 with
      | false =>
        have HC0 := HC.out
        rw [hcc] at HC0
        clear HC
        have HC := Lib.hid HC0
        have HCC := Lib.hid hcc
        clear HC0 hcc
        refine wp_region_ext (by kernel_rfl) (by kernel_rfl) ?_
        repeat (go_big_quiet_step ((first | (go_at_call 39; with_reducible exact qe (HC.out _)) | (go_at_call 46; with_reducible exact qe (HR.out _)) | (go_at_call 94; with_reducible exact qe (HQ2.out _)))))
        refine wpQuiet_nil ?_
        intro _ hw'
        obtain ⟨gx, hw3⟩ := hw'
        subst hw3
        clear x0 x1 x2 x3 x4 x5 x6 x7 x8 x9 c0 c1
        go_wp2_with fail
        go_roundw
        case rel => exact ⟨2, by omega, by go_num, HS.out false HCC.out (Or.inl rfl), below2 HB2.out (ext_below wr gx)⟩
        case measure => simp [intOf]
      | true =>
        have HC0 := HC.out
        rw [hcc] at HC0
        clear HC
        have HC := Lib.hid HC0
        have HCC := Lib.hid hcc
        clear HC0 hcc
        by_cases hlt : rr < q.ping
        · refine wp_region_ext (by kernel_rfl) (by kernel_rfl) ?_
          repeat (go_big_quiet_step ((first | (go_at_call 39; with_reducible exact qe (HC.out _)) | (go_at_call 46; with_reducible exact qe (HR.out _)) | (go_at_call 94; with_reducible exact qe (HQ2.out _)))))
          refine wpQuiet_nil ?_
          intro _ hw'
          obtain ⟨gx, hw3⟩ := hw'
          subst hw3
          clear x0 x1 x2 x3 x4 x5 x6 x7 x8 x9 c0 c1
          go_wp2_with fail
          go_ret
          exact ⟨by rw [shIn_one HJ.out (b := 2) (by omega) (by omega) (HY.out HCC.out hlt)]; rfl, below2 HBW.out (ext_below _ gx)⟩
        · refine wp_region_ext (by kernel_rfl) (by kernel_rfl) ?_
          repeat (go_big_quiet_step ((first | (go_at_call 39; with_reducible exact qe (HC.out _)) | (go_at_call 46; with_reducible exact qe (HR.out _)) | (go_at_call 94; with_reducible exact qe (HQ2.out _)))))
          refine wpQuiet_nil ?_
          intro _ hw'
          obtain ⟨gx, hw3⟩ := hw'
          subst hw3
          clear x0 x1 x2 x3 x4 x5 x6 x7 x8 x9 c0 c1
          have HLT := Lib.hid hlt
          go_wp2_with fail
          go_roundw
          case rel => exact ⟨2, by omega, by go_num, HS.out true HCC.out (Or.inr (by have := HLT.out; omega)), below2 HB2.out (ext_below wr gx)⟩
          case measure => simp [intOf]
    · have HC := Lib.hid (fun w => ref_counts_any a 3 w)
      have HS : Hid (∀ c, rkCounts a 3 = c → (c = false ∨ ¬ rkRank l j 3 s < q.work) → ∀ b : Nat, 1 ≤ b → b ≤ 3 → inB l q s j b = false) := fun c hc h b h1 h2 => by
        rcases Nat.lt_or_ge b 3 with h3 | h3
        · exact HN.out b h1 (by omega)
        · obtain rfl : b = 3 := by omega
          exact inB_no (by rw [HG.out]; exact hc) h
      have HY : Hid (rkCounts a 3 = true → rkRank l j 3 s < q.work → inB l q s j 3 = true) := fun hc h => inB_yes (by rw [HG.out]; exact hc) h
      go_wp2_with fail
      have bW := HB4.out.trans (HB2.out.mono HB4.out.size)
      have K := (HA.below bW h5).ext (Nat.lt_of_lt_of_le h5 bW.size)
      have c0 := fun y => (ext_cell wr y (p := ⟨w.heap.size, 0, none⟩) (Nat.lt_of_lt_of_le lW00 HB2.out.size)).trans (keep HB2.out lW00 e00)
      have c1 := fun y => (ext_cell wr y (p := ⟨w.heap.size, 1, none⟩) (Nat.lt_of_lt_of_le lW00 HB2.out.size)).trans (keep HB2.out lW00 e01)
      have c2 := fun y => (ext_cell wr y (p := ⟨w.heap.size, 2, none⟩) (Nat.lt_of_lt_of_le lW00 HB2.out.size)).trans (keep HB2.out lW00 e02)
      have c3 := fun y => (ext_cell wr y (p := ⟨w.heap.size, 3, none⟩) (Nat.lt_of_lt_of_le lW00 HB2.out.size)).trans (keep HB2.out lW00 e03)
      have HQ2 : Hid (∀ w, Calls Try.prog 94 #[.agg #[.int .i64 q.group, .int .i64 q.ping, .int .i64 q.work, .int .i64 q.time], .int .i64 3] w fun e w' => e = .returned (.int .i64 q.work) ∧ Below w.heap.size w w') := fun w => HQ.out 3 w
      have HR := Lib.hid (fun y => HRK.out 3 (ext wr y) (below2 bW (ext_below wr y)))
      have HBW := Lib.hid bW
      have x0 := fun y => (K y).1; have x1 := fun y => (K y).2.1; have x2 := fun y => (K y).2.2.1; have x3 := fun y => (K y).2.2.2.1; have x4 := fun y => (K y).2.2.2.2.1; have x5 := fun y => (K y).2.2.2.2.2.1; have x6 := fun y => (K y).2.2.2.2.2.2.1; have x7 := fun y => (K y).2.2.2.2.2.2.2.1; have x8 := fun y => (K y).2.2.2.2.2.2.2.2.1; have x9 := fun y => (K y).2.2.2.2.2.2.2.2.2
      clear K bW
      obtain ⟨rr, hrr⟩ : ∃ r, rkRank l j 3 s = r := ⟨_, rfl⟩
      rw [hrr] at HR HS HY
      have HRR := Lib.hid hrr
      clear hrr
      cases hcc : rkCounts a 3 with
      | false =>
        have HC0 := HC.out
        rw [hcc] at HC0
        clear HC
        have HC := Lib.hid HC0
        have HCC := Lib.hid hcc
        clear HC0 hcc
        refine wp_region_ext (by kernel_rfl) (by kernel_rfl) ?_
        repeat (go_big_quiet_step ((first | (go_at_call 39; with_reducible exact qe (HC.out _)) | (go_at_call 46; with_reducible exact qe (HR.out _)) | (go_at_call 94; with_reducible exact qe (HQ2.out _)))))
        refine wpQuiet_nil ?_
        intro _ hw'
        obtain ⟨gx, hw3⟩ := hw'
        subst hw3
        clear x0 x1 x2 x3 x4 x5 x6 x7 x8 x9 c0 c1
        go_wp2_with fail
        go_roundw
        case rel => exact ⟨3, by omega, by go_num, HS.out false HCC.out (Or.inl rfl), below2 HB2.out (ext_below wr gx)⟩
        case measure => simp [intOf]
      | true =>
        have HC0 := HC.out
        rw [hcc] at HC0
        clear HC
        have HC := Lib.hid HC0
        have HCC := Lib.hid hcc
        clear HC0 hcc
        by_cases hlt : rr < q.work
        · refine wp_region_ext (by kernel_rfl) (by kernel_rfl) ?_
          repeat (go_big_quiet_step ((first | (go_at_call 39; with_reducible exact qe (HC.out _)) | (go_at_call 46; with_reducible exact qe (HR.out _)) | (go_at_call 94; with_reducible exact qe (HQ2.out _)))))
          refine wpQuiet_nil ?_
          intro _ hw'
          obtain ⟨gx, hw3⟩ := hw'
          subst hw3
          clear x0 x1 x2 x3 x4 x5 x6 x7 x8 x9 c0 c1
          go_wp2_with fail
          go_ret
          exact ⟨by rw [shIn_one HJ.out (b := 3) (by omega) (by omega) (HY.out HCC.out hlt)]; rfl, below2 HBW.out (ext_below _ gx)⟩
        · refine wp_region_ext (by kernel_rfl) (by kernel_rfl) ?_
          repeat (go_big_quiet_step ((first | (go_at_call 39; with_reducible exact qe (HC.out _)) | (go_at_call 46; with_reducible exact qe (HR.out _)) | (go_at_call 94; with_reducible exact qe (HQ2.out _)))))
          refine wpQuiet_nil ?_
          intro _ hw'
          obtain ⟨gx, hw3⟩ := hw'
          subst hw3
          clear x0 x1 x2 x3 x4 x5 x6 x7 x8 x9 c0 c1
          have HLT := Lib.hid hlt
          go_wp2_with fail
          go_roundw
          case rel => exact ⟨3, by omega, by go_num, HS.out true HCC.out (Or.inr (by have := HLT.out; omega)), below2 HB2.out (ext_below wr gx)⟩
          case measure => simp [intOf]
    · have HC := Lib.hid (fun w => ref_counts_any a 4 w)
      have HS : Hid (∀ c, rkCounts a 4 = c → (c = false ∨ ¬ rkRank l j 4 s < q.time) → ∀ b : Nat, 1 ≤ b → b ≤ 4 → inB l q s j b = false) := fun c hc h b h1 h2 => by
        rcases Nat.lt_or_ge b 4 with h3 | h3
        · exact HN.out b h1 (by omega)
        · obtain rfl : b = 4 := by omega
          exact inB_no (by rw [HG.out]; exact hc) h
      have HY : Hid (rkCounts a 4 = true → rkRank l j 4 s < q.time → inB l q s j 4 = true) := fun hc h => inB_yes (by rw [HG.out]; exact hc) h
      go_wp2_with fail
      have bW := HB4.out.trans (HB2.out.mono HB4.out.size)
      have K := (HA.below bW h5).ext (Nat.lt_of_lt_of_le h5 bW.size)
      have c0 := fun y => (ext_cell wr y (p := ⟨w.heap.size, 0, none⟩) (Nat.lt_of_lt_of_le lW00 HB2.out.size)).trans (keep HB2.out lW00 e00)
      have c1 := fun y => (ext_cell wr y (p := ⟨w.heap.size, 1, none⟩) (Nat.lt_of_lt_of_le lW00 HB2.out.size)).trans (keep HB2.out lW00 e01)
      have c2 := fun y => (ext_cell wr y (p := ⟨w.heap.size, 2, none⟩) (Nat.lt_of_lt_of_le lW00 HB2.out.size)).trans (keep HB2.out lW00 e02)
      have c3 := fun y => (ext_cell wr y (p := ⟨w.heap.size, 3, none⟩) (Nat.lt_of_lt_of_le lW00 HB2.out.size)).trans (keep HB2.out lW00 e03)
      have HQ2 : Hid (∀ w, Calls Try.prog 94 #[.agg #[.int .i64 q.group, .int .i64 q.ping, .int .i64 q.work, .int .i64 q.time], .int .i64 4] w fun e w' => e = .returned (.int .i64 q.time) ∧ Below w.heap.size w w') := fun w => HQ.out 4 w
      have HR := Lib.hid (fun y => HRK.out 4 (ext wr y) (below2 bW (ext_below wr y)))
      have HBW := Lib.hid bW
      have x0 := fun y => (K y).1; have x1 := fun y => (K y).2.1; have x2 := fun y => (K y).2.2.1; have x3 := fun y => (K y).2.2.2.1; have x4 := fun y => (K y).2.2.2.2.1; have x5 := fun y => (K y).2.2.2.2.2.1; have x6 := fun y => (K y).2.2.2.2.2.2.1; have x7 := fun y => (K y).2.2.2.2.2.2.2.1; have x8 := fun y => (K y).2.2.2.2.2.2.2.2.1; have x9 := fun y => (K y).2.2.2.2.2.2.2.2.2
      clear K bW
      obtain ⟨rr, hrr⟩ : ∃ r, rkRank l j 4 s = r := ⟨_, rfl⟩
      rw [hrr] at HR HS HY
      have HRR := Lib.hid hrr
      clear hrr
      cases hcc : rkCounts a 4 with
      | false =>
        have HC0 := HC.out
        rw [hcc] at HC0
        clear HC
        have HC := Lib.hid HC0
        have HCC := Lib.hid hcc
        clear HC0 hcc
        refine wp_region_ext (by kernel_rfl) (by kernel_rfl) ?_
        repeat (go_big_quiet_step ((first | (go_at_call 39; with_reducible exact qe (HC.out _)) | (go_at_call 46; with_reducible exact qe (HR.out _)) | (go_at_call 94; with_reducible exact qe (HQ2.out _)))))
        refine wpQuiet_nil ?_
        intro _ hw'
        obtain ⟨gx, hw3⟩ := hw'
        subst hw3
        clear x0 x1 x2 x3 x4 x5 x6 x7 x8 x9 c0 c1
        go_wp2_with fail
        go_roundw
        case rel => exact ⟨4, by omega, by go_num, HS.out false HCC.out (Or.inl rfl), below2 HB2.out (ext_below wr gx)⟩
        case measure => simp [intOf]
      | true =>
        have HC0 := HC.out
        rw [hcc] at HC0
        clear HC
        have HC := Lib.hid HC0
        have HCC := Lib.hid hcc
        clear HC0 hcc
        by_cases hlt : rr < q.time
        · refine wp_region_ext (by kernel_rfl) (by kernel_rfl) ?_
          repeat (go_big_quiet_step ((first | (go_at_call 39; with_reducible exact qe (HC.out _)) | (go_at_call 46; with_reducible exact qe (HR.out _)) | (go_at_call 94; with_reducible exact qe (HQ2.out _)))))
          refine wpQuiet_nil ?_
          intro _ hw'
          obtain ⟨gx, hw3⟩ := hw'
          subst hw3
          clear x0 x1 x2 x3 x4 x5 x6 x7 x8 x9 c0 c1
          go_wp2_with fail
          go_ret
          exact ⟨by rw [shIn_one HJ.out (b := 4) (by omega) (by omega) (HY.out HCC.out hlt)]; rfl, below2 HBW.out (ext_below _ gx)⟩
        · refine wp_region_ext (by kernel_rfl) (by kernel_rfl) ?_
          repeat (go_big_quiet_step ((first | (go_at_call 39; with_reducible exact qe (HC.out _)) | (go_at_call 46; with_reducible exact qe (HR.out _)) | (go_at_call 94; with_reducible exact qe (HQ2.out _)))))
          refine wpQuiet_nil ?_
          intro _ hw'
          obtain ⟨gx, hw3⟩ := hw'
          subst hw3
          clear x0 x1 x2 x3 x4 x5 x6 x7 x8 x9 c0 c1
          have HLT := Lib.hid hlt
          go_wp2_with fail
          go_roundw
          case rel => exact ⟨4, by omega, by go_num, HS.out true HCC.out (Or.inr (by have := HLT.out; omega)), below2 HB2.out (ext_below wr gx)⟩
          case measure => simp [intOf]
end Go.Proofs.Ytdjmejdfcceknaa
/- The contracts of shield: pick, drop. Conditions: places are places. -/
namespace Go.Proofs.Ytdjmejdfcceknaa
open Go.RowKit

set_option maxRecDepth 100000 in
set_option maxHeartbeats 8000000 in
theorem sh_pick_any (v u : Value) (l : List Pe) (A : List Nat) (hA : ∀ i ∈ A, i < l.length) (w : World) (h : ReadsL peV 10 w v l) (hu : Reads w u A.length 1 (A.map natV)) (hn : A.length ≤ 1000000) :
    Calls Try.prog 96 #[v, u] w fun e w' => ∃ r, e = .returned r ∧ ReadsL peV 10 w' r (A.map (rkGet l)) ∧ Below w.heap.size w w' := by
  obtain ⟨hm, p, c, rfl, h3⟩ := pes_open h
  clear h
  obtain ⟨_, hm1, p1, c1, rfl, k1⟩ := hu.open
  clear hu
  obtain ⟨C, hC, hmk⟩ := run_make_cap peRow A.length (by omega) (by omega)
  go_enter Try.func96, Try.ntmps96
  go_upto_region 3 with fail
  clear hmk
  go_name_world W0 hW0
  have hO0 : W0.ownsRow w.heap.size 34 10 (.slice (some ⟨w.heap.size, 0, none⟩) 0 A.length) 0 [] := by subst hW0; exact World.ownsRow_made w C A.length (Nat.le_refl _) (by unfold maxLen; omega) hC
  have b0 : Below w.heap.size w W0 := by subst hW0; (repeat (first | with_reducible assumption | with_reducible exact Below.refl _ _ | with_reducible refine Below.setCell ?_ (by first | omega | (simp; done) | (simp; omega)) _ | with_reducible refine Below.alloc ?_ (by first | omega | (simp; done) | (simp; omega)) _ | with_reducible refine Below.drew ?_ | (with_reducible refine Below.trans ?_ (Below.mono (by with_reducible assumption) (by first | omega | (simp; done) | (simp; omega)))) | (refine Below.trans ?_ (Below.mono (by assumption) (by first | omega | (simp; done) | (simp; omega))))))
  have HO0 := Lib.hid hO0; have HB0 := Lib.hid b0
  clear hW0 hO0 b0 hC
  go_loopw [5, 13] (fun o' i' wr => ∃ k : Nat, k ≤ A.length ∧ i' = .int .i64 k ∧ Hid (wr.ownsRow w.heap.size 34 10 o' k (((A.take k).map (rkGet l)).flatMap peV)) ∧ Hid (Below w.heap.size w wr)) (fun _ i' _ => A.length - (intOf i').toNat)
  case atStart => exact ⟨0, by omega, rfl, HO0.out, HB0.out⟩
  case round =>
    obtain ⟨k, hk, rfl, HO, HB⟩ := hrel
    by_cases hlt : k < A.length
    · obtain ⟨i, hi⟩ : ∃ i, A[k]? = some i := ⟨_, List.getElem?_eq_getElem hlt⟩
      have hil : i < l.length := hA i (List.mem_of_getElem? hi)
      obtain ⟨p, hp⟩ : ∃ p, l[i]? = some p := ⟨_, List.getElem?_eq_getElem hil⟩
      obtain ⟨b, o, rfl, h4, h5, h6⟩ := h3 (by omega)
      obtain ⟨bx, ox, rfl, hcx, hbx, hxx⟩ := k1 (by omega)
      have g1 : wr.cell? ⟨bx, ox + k, none⟩ = some (.int .i64 i) := keep HB.out hbx (hxx k (natV i) (by rw [List.getElem?_map, hi]; rfl))
      have K := (h6 i p hp).below HB.out h5
      obtain ⟨k0, k1', k2, k3, k4, k5, k6, k7, k8, k9⟩ := K
      have q1 : (0 : Int) ≤ (k : Int) := by omega
      have q2 : (k : Int) < (A.length : Int) := by omega
      have q3 : (0 : Int) ≤ (i : Int) := by omega
      have q4 : (i : Int) < (l.length : Int) := by omega
      have HT : Hid (((A.take (k + 1)).map (rkGet l)).flatMap peV = ((A.take k).map (rkGet l)).flatMap peV ++ peV p) := by
        show _ = _
        rw [List.take_add_one, hi, Option.toList_some, List.map_append, List.flatMap_append, List.map_cons, List.map_nil, List.flatMap_cons, List.flatMap_nil, List.append_nil, rkGet_at hp]
      clear hi hp h6 hxx hil
      go_wp2_with (at_builtin; refine list_app_reads_g peRow rfl _ _ rfl w.heap.size _ k _ rfl (HO.out.alloc _) _ 1 (peV p) rfl (reads_one (us := peV p) rfl (Nat.succ_pos 9)) (peV_one1 p) (by omega) (by omega) (by have := HB.out.size; simp; omega) ?_; intro v' w7 hO7 hg7)
      go_roundw
      case rel => exact ⟨k + 1, by omega, by go_num, (by rw [HT.out]; exact hO7), below_grown (HO.out.alloc _) ((HB.out).alloc (HB.out.size) _) (Nat.le_refl _) (by have := HB.out.size; simp; omega) hg7⟩
      case measure => simp [intOf]; omega
    · obtain rfl : k = A.length := by omega
      have HR : Hid (∀ o', Hid (wr.ownsRow w.heap.size 34 10 o' A.length (((A.take A.length).map (rkGet l)).flatMap peV)) → ReadsL peV 10 wr o' (A.map (rkGet l))) := fun o' hO => by
        have := owns_reads hO.out
        rw [List.take_length] at this
        unfold ReadsL
        rw [List.length_map]; exact this
      go_wp2_with fail
      go_ret
      exact ⟨_, rfl, HR.out _ HO, HB.out⟩
theorem used_full (n : Nat) (O : List Nat) {i : Nat} (h : i < n) : (usedV n O)[i]? = some (.bool (decide (i ∈ O))) := usedV_get h
set_option maxRecDepth 100000 in
set_option maxHeartbeats 8000000 in
theorem sh_drop_any (v u : Value) (A G : List Nat) (hG : ∀ g ∈ G, g < A.length) (w : World) (h : Reads w v A.length 1 (A.map natV)) (hu : Reads w u G.length 1 (G.map natV)) (hn : A.length ≤ 1000000) (hn2 : G.length ≤ 1000000) :
    Calls Try.prog 95 #[v, u] w fun e w' => ∃ r, e = .returned r ∧ w'.ownsRow w.heap.size 3 1 r (dropL A G).length ((dropL A G).map natV) ∧ Below w.heap.size w w' := by
  obtain ⟨_, hm, p, c, rfl, h3⟩ := h.open
  clear h
  obtain ⟨_, hm1, p1, c1, rfl, k1⟩ := hu.open
  clear hu
  obtain ⟨C, hC, hmk⟩ := run_make_cap intRow A.length (by omega) (by omega)
  have hmk2 := fun W => run_make_bools A.length hn W
  go_enter Try.func95, Try.ntmps95
  go_upto_region 4 with fail
  clear hmk hmk2
  go_name_world W0 hW0
  have hO0 : W0.ownsRow w.heap.size 3 1 (.slice (some ⟨w.heap.size, 0, none⟩) 0 A.length) 0 [] := by subst hW0; exact (World.ownsRow_made w C A.length (Nat.le_refl _) (by unfold maxLen; omega) hC).alloc _
  have hU0 : BlockIs W0 (w.heap.size + 1) (usedV A.length []) 4 := by subst hW0; exact BlockIs.newAt' _ _ _ (by simp)
  have b0 : Below w.heap.size w W0 := by subst hW0; (repeat (first | with_reducible assumption | with_reducible exact Below.refl _ _ | with_reducible refine Below.setCell ?_ (by first | omega | (simp; done) | (simp; omega)) _ | with_reducible refine Below.alloc ?_ (by first | omega | (simp; done) | (simp; omega)) _ | with_reducible refine Below.drew ?_ | (with_reducible refine Below.trans ?_ (Below.mono (by with_reducible assumption) (by first | omega | (simp; done) | (simp; omega)))) | (refine Below.trans ?_ (Below.mono (by assumption) (by first | omega | (simp; done) | (simp; omega))))))
  obtain ⟨U, hU⟩ : ∃ U, U = w.heap.size + 1 := ⟨_, rfl⟩
  rw [← hU] at hU0
  rw [← hU]
  have HO0 := Lib.hid hO0; have HU0 := Lib.hid hU0; have HB00 := Lib.hid b0; have HUU := Lib.hid hU
  clear hW0 hO0 hU0 b0 hU hC
  go_loopw [19] (fun i' wr => ∃ k : Nat, k ≤ G.length ∧ i' = .int .i64 k ∧ Hid (wr.ownsRow w.heap.size 3 1 (.slice (some ⟨w.heap.size, 0, none⟩) 0 A.length) 0 []) ∧ Hid (BlockIs wr U (usedV A.length (G.take k)) 4) ∧ Hid (Below w.heap.size w wr)) (fun i' _ => G.length - (intOf i').toNat)
  case atStart => exact ⟨0, by omega, rfl, HO0.out, HU0.out, HB00.out⟩
  case round =>
    obtain ⟨k, hk, rfl, HO, HUk, HB⟩ := hrel
    by_cases hlt : k < G.length
    · obtain ⟨g, hg⟩ : ∃ g, G[k]? = some g := ⟨_, List.getElem?_eq_getElem hlt⟩
      have hgl : g < A.length := hG g (List.mem_of_getElem? hg)
      obtain ⟨bx, ox, rfl, hcx, hbx, hxx⟩ := k1 (by omega)
      have g1 : wr.cell? ⟨bx, ox + k, none⟩ = some (.int .i64 g) := keep HB.out hbx (hxx k (natV g) (by rw [List.getElem?_map, hg]; rfl))
      have q1 : (0 : Int) ≤ (k : Int) := by omega
      have q2 : (k : Int) < (G.length : Int) := by omega
      have q3 : (0 : Int) ≤ (g : Int) := by omega
      have q4 : (g : Int) < (A.length : Int) := by omega
      have hcu := HUk.out.cell (usedV_get (O := G.take k) hgl)
      have hfu := HUk.out.frozen g
      have hUl := HUk.out.lt
      have HGk := Lib.hid hg; have HGL := Lib.hid hgl
      clear hg hxx hgl
      go_upto_region 7 with fail
      go_name_world W5 hW5
      have hU5 : BlockIs W5 U (usedV A.length (G.take (k + 1))) 4 := by
        subst hW5; rw [List.take_add_one, HGk.out, Option.toList_some, ← usedV_set HGL.out]; exact HUk.out.set g _
      have hO5 := owns_set (i := g) (x := .bool true) HO.out HUk.out
      rw [hW5] at hO5
      have hB5 : Below w.heap.size w W5 := by subst hW5; exact HB.out.setCell (by show w.heap.size ≤ U; have := HUU.out; omega) _
      clear hW5 hcu hfu
      have HU5 := Lib.hid hU5; have HB5 := Lib.hid hB5; have HO5 := Lib.hid hO5
      clear hU5 hB5 hO5
      go_wp2_with fail
      go_roundw
      case rel => exact ⟨k + 1, by omega, by go_num, HO5.out, HU5.out, HB5.out⟩
      case measure => simp [intOf]; omega
    · obtain rfl : k = G.length := by omega
      have HU1 : Hid (BlockIs wr U (usedV A.length G) 4) := by
        have := HUk.out
        rwa [List.take_length] at this
      clear HUk
      go_wp2_with fail
      obtain ⟨wp, rfl⟩ : ∃ wp : World, wp = wr := ⟨_, rfl⟩
      go_loopw [5, 29] (fun o' i' wr => ∃ k : Nat, k ≤ A.length ∧ i' = .int .i64 k ∧ Hid (wr.ownsRow w.heap.size 3 1 o' (dropK A G k).length ((dropK A G k).map natV)) ∧ Hid (BlockIs wr U (usedV A.length G) 4) ∧ Hid (Below w.heap.size w wr)) (fun _ i' _ => A.length - (intOf i').toNat)
      case atStart => exact ⟨0, by omega, rfl, HO.out, HU1.out, HB.out⟩
      case round =>
        obtain ⟨k, hk, rfl, HOq, HUq, HBq⟩ := hrel
        by_cases hlt : k < A.length
        · obtain ⟨i, hi⟩ : ∃ i, A[k]? = some i := ⟨_, List.getElem?_eq_getElem hlt⟩
          obtain ⟨bx, ox, rfl, hcx, hbx, hxx⟩ := h3 (by omega)
          have g1 : wr.cell? ⟨bx, ox + k, none⟩ = some (.int .i64 i) := keep HBq.out hbx (hxx k (natV i) (by rw [List.getElem?_map, hi]; rfl))
          have q1 : (0 : Int) ≤ (k : Int) := by omega
          have q2 : (k : Int) < (A.length : Int) := by omega
          have hcu := HUq.out.cell (usedV_get (O := G) hlt)
          have HD := Lib.hid (dropK_succ (G := G) hi)
          have hdl : (dropK A G k).length ≤ k := by unfold dropK; rw [List.length_map]; exact Nat.le_trans (List.length_filter_le _ _) (by simp)
          clear hi hxx
          by_cases hin : k ∈ G
          · have HD2 : Hid (dropK A G (k + 1) = dropK A G k) := by show _ = _; rw [HD.out, if_pos hin, List.append_nil]
            have hde : decide (k ∈ G) = true := decide_eq_true hin
            rw [hde] at hcu
            clear hde hin
            go_wp2_with fail
            go_roundw
            case rel => exact ⟨k + 1, by omega, by go_num, by rw [HD2.out]; exact HOq.out, HUq.out, HBq.out⟩
            case measure => simp [intOf]; omega
          · have HD2 : Hid (dropK A G (k + 1) = dropK A G k ++ [i]) := by show _ = _; rw [HD.out, if_neg hin]
            have hde : decide (k ∈ G) = false := decide_eq_false hin
            rw [hde] at hcu
            clear hde hin
            go_wp2_with (at_builtin; refine list_app_reads_g intRow rfl _ _ rfl w.heap.size _ (dropK A G k).length ((dropK A G k).map natV) rfl (HOq.out.alloc _) _ 1 [natV i] rfl (reads_one (us := [natV i]) rfl (Nat.succ_pos 0)) (natV_one i) (by omega) (by omega) (by have := HBq.out.size; simp; omega) ?_; intro v' w7 hO7 hg7)
            go_roundw
            case rel => exact ⟨k + 1, by omega, by go_num, (by rw [HD2.out]; have := hO7; simp only [List.length_append, List.length_singleton, List.map_append, List.map_cons, List.map_nil]; exact this), blk_grown ((HUq.out).alloc' _) hg7 (owns_ne HOq.out HUq.out), below_grown (HOq.out.alloc _) ((HBq.out).alloc (HBq.out.size) _) (Nat.le_refl _) (by have := HBq.out.size; simp; omega) hg7⟩
            case measure => simp [intOf]; omega
        · obtain rfl : k = A.length := by omega
          go_wp2_with fail
          go_ret
          exact ⟨_, rfl, HOq.out, HBq.out⟩
end Go.Proofs.Ytdjmejdfcceknaa
/- The contracts of shield.Left and shield.Saved. Conditions: numbers are 64 bits. -/
namespace Go.Proofs.Ytdjmejdfcceknaa
open Go.RowKit
set_option linter.unusedSimpArgs false
set_option linter.unusedVariables false

def Qu.fits (q : Qu) : Prop := (-9223372036854775808 ≤ q.group ∧ q.group ≤ 9223372036854775807) ∧ (-9223372036854775808 ≤ q.ping ∧ q.ping ≤ 9223372036854775807) ∧ (-9223372036854775808 ≤ q.work ∧ q.work ≤ 9223372036854775807) ∧ (-9223372036854775808 ≤ q.time ∧ q.time ≤ 9223372036854775807)
/-- who is protected behind so many orders -/
def svO (l : List Pe) (q : Qu) (s : Nat) : Nat → List Nat
  | 0 => []
  | b + 1 => svStep l.length (rkLt l (b + 1 : Nat) s) (fun i => rkCounts (rkGet l i) (b + 1 : Nat)) (quN q (b + 1 : Nat)).toNat (svO l q s b)
def lfL (l : List Pe) (q : Qu) (s : Nat) (b : Nat) : List Nat := leftOf (List.range l.length) (svO l q s b)
theorem svO_nodup (l : List Pe) (q : Qu) (s : Nat) : ∀ b, (svO l q s b).Nodup
  | 0 => List.nodup_nil
  | b + 1 => svStep_nodup (svO_nodup l q s b)
theorem svO_lt (l : List Pe) (q : Qu) (s : Nat) : ∀ b, ∀ i ∈ svO l q s b, i < l.length
  | 0 => by intro i hi; cases hi
  | b + 1 => svStep_lt (svO_lt l q s b)
theorem lfL_nodup (l : List Pe) (q : Qu) (s b : Nat) : (lfL l q s b).Nodup := List.nodup_range.filter _
theorem lfL_lt {l : List Pe} {q : Qu} {s b i : Nat} (h : i ∈ lfL l q s b) : i < l.length := List.mem_range.1 (left_mem.1 h).1
theorem lfL_len (l : List Pe) (q : Qu) (s b : Nat) : (lfL l q s b).length ≤ l.length := by
  have := List.length_filter_le (fun i => decide (i ∉ svO l q s b)) (List.range l.length)
  rw [List.length_range] at this; exact this
theorem lfL_zero (l : List Pe) (q : Qu) (s : Nat) : lfL l q s 0 = List.range l.length := by
  unfold lfL svO leftOf; exact List.filter_eq_self.2 fun _ _ => by simp
theorem rkGet_map (l : List Pe) (A : List Nat) (x : Nat) : rkGet (A.map (rkGet l)) x = rkGet l (atF l.length A x) := by
  unfold atF
  conv => lhs; unfold rkGet
  rw [List.getElem?_map]
  cases h : A[x]? with
  | none => simp [rkGet]
  | some i => simp [rkGet]
theorem first_atF (l : List Pe) (A : List Nat) (q n : Int) (s : Nat) : (rkFirst (A.map (rkGet l)) q n s).map (atF l.length A) = (ssort (rkLt l q s) (A.filter fun i => rkCounts (rkGet l i) q)).take n.toNat := by
  unfold rkFirst
  rw [List.map_take, ssort_map (atF l.length A) (rkLt (A.map (rkGet l)) q s) (rkLt l q s) (fun x y => by unfold rkLt; rw [rkGet_map, rkGet_map])]
  congr 2
  unfold rkIdx
  conv => rhs; rw [← range_atF l.length A]
  rw [List.filter_map, List.length_map]
  congr 1
  exact List.filter_congr fun x _ => by rw [rkGet_map]; rfl
theorem first_in {l : List Pe} {q n : Int} {s i : Nat} (h : i ∈ rkFirst l q n s) : i < l.length := rkIdx_lt ((ssort_mem _).1 (List.mem_of_mem_take h))
theorem lf_step (l : List Pe) (q : Qu) (s b : Nat) : dropL (lfL l q s b) (rkFirst ((lfL l q s b).map (rkGet l)) (b + 1 : Nat) (quN q (b + 1 : Nat)) s) = lfL l q s (b + 1) := by
  rw [dropL_is (big := l.length) (lfL_nodup l q s b) (fun g hg => by have := first_in hg; rwa [List.length_map] at this), first_atF]
  exact left_step
theorem first_len (l : List Pe) (q n : Int) (s : Nat) : (rkFirst l q n s).length ≤ l.length := by
  unfold rkFirst
  rw [List.length_take, ssort_len]
  unfold rkIdx
  have := List.length_filter_le (fun i => rkCounts (rkGet l i) q) (List.range l.length)
  rw [List.length_range] at this
  omega
def idV (n k : Nat) : List Value := (List.range n).map fun i => natV (if i < k then i else 0)
theorem idV_len (n k : Nat) : (idV n k).length = n := by simp [idV]
theorem idV_get {n k i : Nat} (h : i < n) : (idV n k)[i]? = some (natV (if i < k then i else 0)) := by unfold idV; rw [List.getElem?_map, List.getElem?_range h]; rfl
theorem idV_set {n k : Nat} (h : k < n) : (idV n k).set k (natV k) = idV n (k + 1) := by
  apply List.ext_getElem?
  intro i
  by_cases hi : i < n
  · rw [List.getElem?_set, idV_len, idV_get hi]
    by_cases e : k = i
    · subst e
      rw [if_pos rfl, if_pos h, idV_get h, if_pos (by omega)]
    · rw [if_neg e, idV_get hi]
      congr 2
      by_cases h1 : i < k
      · rw [if_pos h1, if_pos (by omega)]
      · rw [if_neg h1, if_neg (by omega)]
  · rw [List.getElem?_eq_none (by simp [idV_len]; omega), List.getElem?_eq_none (by simp [idV_len]; omega)]
theorem idV_full (n : Nat) : idV n n = (List.range n).map natV := by
  unfold idV
  refine List.map_congr_left fun i hi => ?_
  rw [if_pos (List.mem_range.1 hi)]
theorem run_make_idV (n : Nat) (hn : n ≤ 1000000) (W : World) : (Instr.makeSlice 57 (.int .i64 n) (.int .i64 n)).run Try.prog W = .ok (.slice (some ⟨W.heap.size, 0, none⟩) n n) (W.alloc (.cells (idV n 0).toArray 3)) := by
  obtain ⟨i, hi, hz0, hz1, hz2⟩ := info_parts (show (Try.prog.info? 3).map (fun i => (i.zero, i.size, i.bytes)) = some (some (.int .i64 0), 1, 8) by kernel_rfl)
  have := run_make (P := Try.prog) W 57 3 i (.int .i64 0) Try.underlying57 hi hz0 .i64 .i64 n n (by omega) (by omega) (by rw [hz2]; omega) (by omega)
  have e1 : ((n : Nat) : Int).toNat = n := by omega
  have e2 : madeCells (Value.int .i64 0).cells (n * 1) = (idV n 0).toArray := by
    apply Array.ext
    · simp [size_madeCells, idV_len]
    · intro j h1 h2
      simp [madeCells, idV, natV, Value.cells, Nat.mod_one]
  rw [this, e1, hz1, e2]
theorem reads_nats {w : World} {B n : Nat} {T : TypeId} {L : List Nat} (hB : BlockIs w B (L.map natV) T) (hn : L.length = n) (hm : n ≤ 1000000) : Reads w (.slice (some ⟨B, 0, none⟩) n n) n 1 (L.map natV) := by
  refine ⟨by rw [List.length_map]; omega, by omega, ?_⟩
  rcases Nat.eq_zero_or_pos n with h0 | h0
  · exact Or.inl ⟨h0, _, _, by rw [h0]⟩
  · exact Or.inr ⟨h0, B, 0, n, rfl, Nat.le_refl _, hB.lt, fun j x hj => by rw [Nat.zero_add]; exact hB.cell hj⟩
theorem BlockIs.belowAt {w w' : World} {B n : Nat} {arr : List Value} {T : TypeId} (h : BlockIs w B arr T) (hb : Below n w w') (hlt : B < n) : BlockIs w' B arr T := by
  have := hb.block B hlt; unfold BlockIs at *; rw [this]; exact h
theorem owns_nats {w : World} {B n base : Nat} {T : TypeId} {L : List Nat} (hB : BlockIs w B (L.map natV) T) (hn : L.length = n) (hm : n ≤ 1000000) (hb : base ≤ B) : w.ownsRow base T 1 (.slice (some ⟨B, 0, none⟩) n n) n (L.map natV) := by
  refine ⟨by rw [List.length_map]; omega, Or.inr ⟨B, n, (L.map natV).toArray, rfl, hb, hB, Nat.le_refl _, by unfold maxLen; omega, by simp [hn], by rw [List.take_of_length_le (by simp; omega)]⟩⟩
set_option maxRecDepth 100000 in
set_option maxHeartbeats 16000000 in
theorem sh_left_any (v : Value) (l : List Pe) (hl : ∀ x ∈ l, x.fits) (q : Qu) (hq : q.fits) (s : Nat) (hs : s < 18446744073709551616) (w : World) (h : ReadsL peV 10 w v l) (hn : l.length ≤ 1000000) :
    Calls Try.prog 53 #[v, .agg #[.int .i64 q.group, .int .i64 q.ping, .int .i64 q.work, .int .i64 q.time], .int .u64 s] w fun e w' => ∃ r, e = .returned r ∧ w'.ownsRow w.heap.size 3 1 r (lfL l q s 4).length ((lfL l q s 4).map natV) ∧ Below w.heap.size w w' := by
  have h0 := Lib.hid h
  obtain ⟨hm, p, c, rfl, h3⟩ := pes_open h
  clear h h3
  have hmk := fun W => run_make_idV l.length hn W
  have HT := Lib.hid (fun w => turns_any q w)
  go_enter Try.func53, Try.ntmps53
  go_upto_region 3 with fail
  clear hmk
  go_name_world W0 hW0
  have hA0 : BlockIs W0 (w.heap.size + 1) (idV l.length 0) 3 := by subst hW0; exact BlockIs.newAt' _ _ _ (by simp)
  have d0 : W0.cell? ⟨w.heap.size, 0, none⟩ = some (.int .i64 q.group) := by subst hW0; (first | (simp [go_sem, *]; done) | (simp (disch := first | omega | (simp; omega) | (simp [go_sem, *]; done)) [go_sem, World.cell?_setCell_far, World.cell?_alloc_past, World.frozen?_alloc_past, *]; done))
  have d1 : W0.cell? ⟨w.heap.size, 1, none⟩ = some (.int .i64 q.ping) := by subst hW0; (first | (simp [go_sem, *]; done) | (simp (disch := first | omega | (simp; omega) | (simp [go_sem, *]; done)) [go_sem, World.cell?_setCell_far, World.cell?_alloc_past, World.frozen?_alloc_past, *]; done))
  have d2 : W0.cell? ⟨w.heap.size, 2, none⟩ = some (.int .i64 q.work) := by subst hW0; (first | (simp [go_sem, *]; done) | (simp (disch := first | omega | (simp; omega) | (simp [go_sem, *]; done)) [go_sem, World.cell?_setCell_far, World.cell?_alloc_past, World.frozen?_alloc_past, *]; done))
  have d3 : W0.cell? ⟨w.heap.size, 3, none⟩ = some (.int .i64 q.time) := by subst hW0; (first | (simp [go_sem, *]; done) | (simp (disch := first | omega | (simp; omega) | (simp [go_sem, *]; done)) [go_sem, World.cell?_setCell_far, World.cell?_alloc_past, World.frozen?_alloc_past, *]; done))
  have b0 : Below w.heap.size w W0 := by subst hW0; (repeat (first | with_reducible assumption | with_reducible exact Below.refl _ _ | with_reducible refine Below.setCell ?_ (by first | omega | (simp; done) | (simp; omega)) _ | with_reducible refine Below.alloc ?_ (by first | omega | (simp; done) | (simp; omega)) _ | with_reducible refine Below.drew ?_ | (with_reducible refine Below.trans ?_ (Below.mono (by with_reducible assumption) (by first | omega | (simp; done) | (simp; omega)))) | (refine Below.trans ?_ (Below.mono (by assumption) (by first | omega | (simp; done) | (simp; omega))))))
  have z0 : w.heap.size + 2 ≤ W0.heap.size := by subst hW0; simp
  obtain ⟨U, hU⟩ : ∃ U, U = w.heap.size + 1 := ⟨_, rfl⟩
  rw [← hU] at hA0
  rw [← hU]
  have HA0 := Lib.hid hA0; have HB0 := Lib.hid b0; have HUU := Lib.hid hU; have HZ := Lib.hid z0
  have HD0 := Lib.hid d0; have HD1 := Lib.hid d1; have HD2 := Lib.hid d2; have HD3 := Lib.hid d3
  clear hW0 hA0 b0 hU z0 d0 d1 d2 d3
  go_loopw [16] (fun i' wr => ∃ k : Nat, k ≤ l.length ∧ i' = .int .i64 k ∧ Hid (BlockIs wr U (idV l.length k) 3) ∧ Hid (Below U W0 wr)) (fun i' _ => l.length - (intOf i').toNat)
  case atStart => exact ⟨0, by omega, rfl, HA0.out, Below.refl _ _⟩
  case round =>
    obtain ⟨k, hk, rfl, HAk, HB⟩ := hrel
    by_cases hlt : k < l.length
    · have q1 : (0 : Int) ≤ (k : Int) := by omega
      have q2 : (k : Int) < (l.length : Int) := by omega
      have hcu := HAk.out.cell (idV_get (k := k) hlt)
      have hfu := HAk.out.frozen k
      have hUl := HAk.out.lt
      go_upto_region 6 with fail
      go_name_world W5 hW5
      have hA5 : BlockIs W5 U (idV l.length (k + 1)) 3 := by subst hW5; rw [← idV_set hlt]; exact HAk.out.set k _
      have hB5 : Below U W0 W5 := by subst hW5; exact HB.out.setCell (Nat.le_refl _) _
      clear hW5 hcu hfu
      have HA5 := Lib.hid hA5; have HB5 := Lib.hid hB5
      clear hA5 hB5
      go_wp2_with fail
      go_roundw
      case rel => exact ⟨k + 1, by omega, by go_num, HA5.out, HB5.out⟩
      case measure => simp [intOf]; omega
    · obtain rfl : k = l.length := by omega
      have hUl := HAk.out.lt
      have HBw : Hid (Below w.heap.size w wr) := HB0.out.trans (HB.out.mono (by have := HUU.out; omega))
      have HR0 : Hid (wr.ownsRow w.heap.size 3 1 (.slice (some ⟨U, 0, none⟩) l.length l.length) (lfL l q s 0).length ((lfL l q s 0).map natV)) := by
        have := HAk.out
        rw [idV_full] at this
        rw [lfL_zero, List.length_range]
        exact owns_nats this (by simp) hn (by have := HUU.out; omega)
      have e0 := keep HB.out (show w.heap.size < U by have := HUU.out; omega) HD0.out
      have e1 := keep HB.out (show w.heap.size < U by have := HUU.out; omega) HD1.out
      have e2 := keep HB.out (show w.heap.size < U by have := HUU.out; omega) HD2.out
      have e3 := keep HB.out (show w.heap.size < U by have := HUU.out; omega) HD3.out
      go_upto_region 8 with (go_at_call 93; (with_reducible refine (HT.out _).mono ?_); rintro e w4 ⟨rfl, b4⟩)
      have HB4 := Lib.hid (below2 HBw.out b4)
      have HR4 := Lib.hid (owns_below HR0.out b4)
      clear e0 e1 e2 e3 b4
      obtain ⟨wp, rfl⟩ : ∃ wp : World, wp = wr := ⟨_, rfl⟩
      go_loopw [7, 26] (fun a' i' wr => ∃ k : Nat, k ≤ 4 ∧ i' = .int .i64 k ∧ Hid (wr.ownsRow w.heap.size 3 1 a' (lfL l q s k).length ((lfL l q s k).map natV)) ∧ Hid (Below w.heap.size w wr)) (fun _ i' _ => 4 - (intOf i').toNat)
      case atStart => exact ⟨0, by omega, rfl, HR4.out, HB4.out⟩
      case round =>
        obtain ⟨k, hk, rfl, HRk, HBk⟩ := hrel
        rcases (show k = 4 ∨ k = 0 ∨ k = 1 ∨ k = 2 ∨ k = 3 by omega) with rfl | rfl | rfl | rfl | rfl
        · go_wp2_with fail
          go_ret
          exact ⟨_, rfl, HRk.out, HBk.out⟩
        · simp only [show ((0 : Nat) : Int) = 0 from rfl]
          have hix := fun (W : World) => (show (Instr.index 98 (.agg #[.int .i64 1, .int .i64 q.group, .int .i64 2, .int .i64 q.ping, .int .i64 3, .int .i64 q.work, .int .i64 4, .int .i64 q.time]) (.int .i64 0)).run Try.prog W = .ok (.agg #[.int .i64 1, .int .i64 q.group]) W by kernel_rfl)
          go_upto_region 10 with fail
          clear hix
          go_name_world WW6 hWW6
          have e60 : WW6.cell? ⟨wr.heap.size, 0, none⟩ = some (.int .i64 1) := by subst hWW6; (first | (simp (disch := first | omega | (simp; omega)) [World.cell?_alloc_past, World.frozen?_alloc_past, *]; done) | (simp (disch := first | omega | (simp; omega)) [World.cell?_setCell_far, World.cell?_alloc_past, *]; done) | (simp (disch := first | omega | (simp; omega)) [World.cell?_alloc_past, World.frozen?_alloc_past, *]; rfl) | (simp (disch := first | omega | (simp; omega)) [World.cell?_setCell_far, World.cell?_alloc_past, *]; rfl) | (simp [go_sem, *]; done) | (simp (disch := first | omega | (simp; omega) | (simp [go_sem, *]; done)) [go_sem, World.cell?_setCell_far, World.cell?_alloc_past, World.frozen?_alloc_past, *]; done))
          have e61 : WW6.cell? ⟨wr.heap.size, 1, none⟩ = some (.int .i64 q.group) := by subst hWW6; (first | (simp (disch := first | omega | (simp; omega)) [World.cell?_alloc_past, World.frozen?_alloc_past, *]; done) | (simp (disch := first | omega | (simp; omega)) [World.cell?_setCell_far, World.cell?_alloc_past, *]; done) | (simp (disch := first | omega | (simp; omega)) [World.cell?_alloc_past, World.frozen?_alloc_past, *]; rfl) | (simp (disch := first | omega | (simp; omega)) [World.cell?_setCell_far, World.cell?_alloc_past, *]; rfl) | (simp [go_sem, *]; done) | (simp (disch := first | omega | (simp; omega) | (simp [go_sem, *]; done)) [go_sem, World.cell?_setCell_far, World.cell?_alloc_past, World.frozen?_alloc_past, *]; done))
          have bw6 : Below wr.heap.size wr WW6 := by subst hWW6; (repeat (first | assumption | exact Below.refl _ _ | refine Below.setCell ?_ (by first | omega | (simp; done) | (simp; omega)) _ | refine Below.alloc ?_ (by first | omega | (simp; done) | (simp; omega)) _ | refine Below.drew ?_ | (refine Below.trans ?_ (Below.mono (by assumption) (by first | omega | (simp; done) | (simp; omega))))))
          have zw6 : _ := bw6.size
          have lW60 : wr.heap.size < WW6.heap.size := by subst hWW6; first | omega | (simp; done) | (simp; omega)
          clear hWW6
          have hRW : ReadsL peV 10 WW6 (.slice p l.length c) l := Reads.below h0.out (below2 HBk.out bw6)
          have hRA := Reads.below (owns_reads HRk.out) bw6
          have HBW := Lib.hid (below2 HBk.out bw6)
          have hAl : (lfL l q s 0).length ≤ 1000000 := Nat.le_trans (lfL_len l q s 0) hn
          have hPl : ∀ x ∈ (lfL l q s 0).map (rkGet l), x.fits := fun x hx => by
            obtain ⟨i, hi, rfl⟩ := List.mem_map.1 hx
            have hil := lfL_lt hi
            rw [rkGet_at (List.getElem?_eq_getElem hil)]
            exact hl _ (List.getElem_mem _)
          have HP := Lib.hid (fun W (hW : Below WW6.heap.size WW6 W) => sh_pick_any _ _ l (lfL l q s 0) (fun i hi => lfL_lt hi) W (Reads.below hRW hW) (Reads.below hRA hW) hAl)
          have HF := Lib.hid (fun r W (hW : ReadsL peV 10 W r ((lfL l q s 0).map (rkGet l))) => rk_first_any r _ hPl 1 q.group hq.1 s hs W hW (by rw [List.length_map]; exact hAl))
          have HS : Hid (dropL (lfL l q s 0) (rkFirst ((lfL l q s 0).map (rkGet l)) 1 q.group s) = lfL l q s 1) := lf_step l q s 0
          have HD := Lib.hid (fun r W (hW : Below WW6.heap.size WW6 W) (hr : Reads W r _ 1 ((rkFirst ((lfL l q s 0).map (rkGet l)) 1 q.group s).map natV)) => sh_drop_any _ r (lfL l q s 0) _ (fun g hg => by have := first_in hg; rwa [List.length_map] at this) W (Reads.below hRA hW) hr hAl (Nat.le_trans (first_len _ _ _ _) (by rw [List.length_map]; exact hAl)))
          clear hRW hRA hAl hPl
          go_region_held3 (fun w' => w'.cell? ⟨wr.heap.size, 0, none⟩ = some (.int .i64 1) ∧ w'.cell? ⟨wr.heap.size, 1, none⟩ = some (.int .i64 q.group)) (first | go_keep | (simp (disch := omega) [*])) (first | (go_at_call 96; (with_reducible refine (HP.out _ (by (repeat (first | with_reducible assumption | with_reducible exact Below.refl _ _ | with_reducible refine Below.setCell ?_ (by first | omega | (simp; done) | (simp; omega)) _ | with_reducible refine Below.alloc ?_ (by first | omega | (simp; done) | (simp; omega)) _ | with_reducible refine Below.drew ?_ | (with_reducible refine Below.trans ?_ (Below.mono (by with_reducible assumption) (by first | omega | (simp; done) | (simp; omega)))) | (refine Below.trans ?_ (Below.mono (by assumption) (by first | omega | (simp; done) | (simp; omega)))))))).mono ?_); rintro e w3 ⟨r1, rfl, o3, b3⟩; have z3 := b3.size; (try simp at z3); have d3 := fun o => (bcell b3).1 wr.heap.size o (by first | omega | (simp; done) | (simp; omega))) | (go_at_call 43; (with_reducible refine (HF.out _ _ (ReadsL.below o3 (by (repeat (first | with_reducible assumption | with_reducible exact Below.refl _ _ | with_reducible refine Below.setCell ?_ (by first | omega | (simp; done) | (simp; omega)) _ | with_reducible refine Below.alloc ?_ (by first | omega | (simp; done) | (simp; omega)) _ | with_reducible refine Below.drew ?_ | (with_reducible refine Below.trans ?_ (Below.mono (by with_reducible assumption) (by first | omega | (simp; done) | (simp; omega)))) | (refine Below.trans ?_ (Below.mono (by assumption) (by first | omega | (simp; done) | (simp; omega))))))))).mono ?_); rintro e w5 ⟨r2, rfl, o5, b5⟩; have z5 := b5.size; (try simp at z5); have d5 := fun o => (bcell b5).1 wr.heap.size o (by first | omega | (simp; done) | (simp; omega))) | (go_at_call 95; (with_reducible refine (HD.out _ _ (by (repeat (first | with_reducible assumption | with_reducible exact Below.refl _ _ | with_reducible refine Below.setCell ?_ (by first | omega | (simp; done) | (simp; omega)) _ | with_reducible refine Below.alloc ?_ (by first | omega | (simp; done) | (simp; omega)) _ | with_reducible refine Below.drew ?_ | (with_reducible refine Below.trans ?_ (Below.mono (by with_reducible assumption) (by first | omega | (simp; done) | (simp; omega)))) | (refine Below.trans ?_ (Below.mono (by assumption) (by first | omega | (simp; done) | (simp; omega))))))) (Reads.below o5 (by (repeat (first | with_reducible assumption | with_reducible exact Below.refl _ _ | with_reducible refine Below.setCell ?_ (by first | omega | (simp; done) | (simp; omega)) _ | with_reducible refine Below.alloc ?_ (by first | omega | (simp; done) | (simp; omega)) _ | with_reducible refine Below.drew ?_ | (with_reducible refine Below.trans ?_ (Below.mono (by with_reducible assumption) (by first | omega | (simp; done) | (simp; omega)))) | (refine Below.trans ?_ (Below.mono (by assumption) (by first | omega | (simp; done) | (simp; omega))))))))).mono ?_); rintro e w6 ⟨r3, rfl, o6, b6⟩; have z6 := b6.size; (try simp at z6); have d6 := fun o => (bcell b6).1 wr.heap.size o (by first | omega | (simp; done) | (simp; omega))))
          have b7 : Below WW6.heap.size WW6 w6 := by (repeat (first | with_reducible assumption | with_reducible exact Below.refl _ _ | with_reducible refine Below.setCell ?_ (by first | omega | (simp; done) | (simp; omega)) _ | with_reducible refine Below.alloc ?_ (by first | omega | (simp; done) | (simp; omega)) _ | with_reducible refine Below.drew ?_ | (with_reducible refine Below.trans ?_ (Below.mono (by with_reducible assumption) (by first | omega | (simp; done) | (simp; omega)))) | (refine Below.trans ?_ (Below.mono (by assumption) (by first | omega | (simp; done) | (simp; omega))))))
          have HB7 := Lib.hid (below2 HBW.out b7)
          rw [HS.out] at o6
          have HO6 := Lib.hid (owns_base o6 (by have := HBW.out.size; have := b3.size; have := b5.size; simp at *; omega : w.heap.size ≤ _))
          clear o3 o5 o6 b3 b5 b6 b7 d3 d5 d6
          go_wp2_with fail
          go_roundw
          case rel => exact ⟨1, by omega, by go_num, HO6.out, HB7.out⟩
          case measure => simp [intOf]
        · simp only [show ((1 : Nat) : Int) = 1 from rfl]
          have hix := fun (W : World) => (show (Instr.index 98 (.agg #[.int .i64 1, .int .i64 q.group, .int .i64 2, .int .i64 q.ping, .int .i64 3, .int .i64 q.work, .int .i64 4, .int .i64 q.time]) (.int .i64 1)).run Try.prog W = .ok (.agg #[.int .i64 2, .int .i64 q.ping]) W by kernel_rfl)
          go_upto_region 10 with fail
          clear hix
          go_name_world WW6 hWW6
          have e60 : WW6.cell? ⟨wr.heap.size, 0, none⟩ = some (.int .i64 2) := by subst hWW6; (first | (simp (disch := first | omega | (simp; omega)) [World.cell?_alloc_past, World.frozen?_alloc_past, *]; done) | (simp (disch := first | omega | (simp; omega)) [World.cell?_setCell_far, World.cell?_alloc_past, *]; done) | (simp (disch := first | omega | (simp; omega)) [World.cell?_alloc_past, World.frozen?_alloc_past, *]; rfl) | (simp (disch := first | omega | (simp; omega)) [World.cell?_setCell_far, World.cell?_alloc_past, *]; rfl) | (simp [go_sem, *]; done) | (simp (disch := first | omega | (simp; omega) | (simp [go_sem, *]; done)) [go_sem, World.cell?_setCell_far, World.cell?_alloc_past, World.frozen?_alloc_past, *]; done))
          have e61 : WW6.cell? ⟨wr.heap.size, 1, none⟩ = some (.int .i64 q.ping) := by subst hWW6; (first | (simp (disch := first | omega | (simp; omega)) [World.cell?_alloc_past, World.frozen?_alloc_past, *]; done) | (simp (disch := first | omega | (simp; omega)) [World.cell?_setCell_far, World.cell?_alloc_past, *]; done) | (simp (disch := first | omega | (simp; omega)) [World.cell?_alloc_past, World.frozen?_alloc_past, *]; rfl) | (simp (disch := first | omega | (simp; omega)) [World.cell?_setCell_far, World.cell?_alloc_past, *]; rfl) | (simp [go_sem, *]; done) | (simp (disch := first | omega | (simp; omega) | (simp [go_sem, *]; done)) [go_sem, World.cell?_setCell_far, World.cell?_alloc_past, World.frozen?_alloc_past, *]; done))
          have bw6 : Below wr.heap.size wr WW6 := by subst hWW6; (repeat (first | assumption | exact Below.refl _ _ | refine Below.setCell ?_ (by first | omega | (simp; done) | (simp; omega)) _ | refine Below.alloc ?_ (by first | omega | (simp; done) | (simp; omega)) _ | refine Below.drew ?_ | (refine Below.trans ?_ (Below.mono (by assumption) (by first | omega | (simp; done) | (simp; omega))))))
          have zw6 : _ := bw6.size
          have lW60 : wr.heap.size < WW6.heap.size := by subst hWW6; first | omega | (simp; done) | (simp; omega)
          clear hWW6
          have hRW : ReadsL peV 10 WW6 (.slice p l.length c) l := Reads.below h0.out (below2 HBk.out bw6)
          have hRA := Reads.below (owns_reads HRk.out) bw6
          have HBW := Lib.hid (below2 HBk.out bw6)
          have hAl : (lfL l q s 1).length ≤ 1000000 := Nat.le_trans (lfL_len l q s 1) hn
          have hPl : ∀ x ∈ (lfL l q s 1).map (rkGet l), x.fits := fun x hx => by
            obtain ⟨i, hi, rfl⟩ := List.mem_map.1 hx
            have hil := lfL_lt hi
            rw [rkGet_at (List.getElem?_eq_getElem hil)]
            exact hl _ (List.getElem_mem _)
          have HP := Lib.hid (fun W (hW : Below WW6.heap.size WW6 W) => sh_pick_any _ _ l (lfL l q s 1) (fun i hi => lfL_lt hi) W (Reads.below hRW hW) (Reads.below hRA hW) hAl)
          have HF := Lib.hid (fun r W (hW : ReadsL peV 10 W r ((lfL l q s 1).map (rkGet l))) => rk_first_any r _ hPl 2 q.ping hq.2.1 s hs W hW (by rw [List.length_map]; exact hAl))
          have HS : Hid (dropL (lfL l q s 1) (rkFirst ((lfL l q s 1).map (rkGet l)) 2 q.ping s) = lfL l q s 2) := lf_step l q s 1
          have HD := Lib.hid (fun r W (hW : Below WW6.heap.size WW6 W) (hr : Reads W r _ 1 ((rkFirst ((lfL l q s 1).map (rkGet l)) 2 q.ping s).map natV)) => sh_drop_any _ r (lfL l q s 1) _ (fun g hg => by have := first_in hg; rwa [List.length_map] at this) W (Reads.below hRA hW) hr hAl (Nat.le_trans (first_len _ _ _ _) (by rw [List.length_map]; exact hAl)))
          clear hRW hRA hAl hPl
          go_region_held3 (fun w' => w'.cell? ⟨wr.heap.size, 0, none⟩ = some (.int .i64 2) ∧ w'.cell? ⟨wr.heap.size, 1, none⟩ = some (.int .i64 q.ping)) (first | go_keep | (simp (disch := omega) [*])) (first | (go_at_call 96; (with_reducible refine (HP.out _ (by (repeat (first | with_reducible assumption | with_reducible exact Below.refl _ _ | with_reducible refine Below.setCell ?_ (by first | omega | (simp; done) | (simp; omega)) _ | with_reducible refine Below.alloc ?_ (by first | omega | (simp; done) | (simp; omega)) _ | with_reducible refine Below.drew ?_ | (with_reducible refine Below.trans ?_ (Below.mono (by with_reducible assumption) (by first | omega | (simp; done) | (simp; omega)))) | (refine Below.trans ?_ (Below.mono (by assumption) (by first | omega | (simp; done) | (simp; omega)))))))).mono ?_); rintro e w3 ⟨r1, rfl, o3, b3⟩; have z3 := b3.size; (try simp at z3); have d3 := fun o => (bcell b3).1 wr.heap.size o (by first | omega | (simp; done) | (simp; omega))) | (go_at_call 43; (with_reducible refine (HF.out _ _ (ReadsL.below o3 (by (repeat (first | with_reducible assumption | with_reducible exact Below.refl _ _ | with_reducible refine Below.setCell ?_ (by first | omega | (simp; done) | (simp; omega)) _ | with_reducible refine Below.alloc ?_ (by first | omega | (simp; done) | (simp; omega)) _ | with_reducible refine Below.drew ?_ | (with_reducible refine Below.trans ?_ (Below.mono (by with_reducible assumption) (by first | omega | (simp; done) | (simp; omega)))) | (refine Below.trans ?_ (Below.mono (by assumption) (by first | omega | (simp; done) | (simp; omega))))))))).mono ?_); rintro e w5 ⟨r2, rfl, o5, b5⟩; have z5 := b5.size; (try simp at z5); have d5 := fun o => (bcell b5).1 wr.heap.size o (by first | omega | (simp; done) | (simp; omega))) | (go_at_call 95; (with_reducible refine (HD.out _ _ (by (repeat (first | with_reducible assumption | with_reducible exact Below.refl _ _ | with_reducible refine Below.setCell ?_ (by first | omega | (simp; done) | (simp; omega)) _ | with_reducible refine Below.alloc ?_ (by first | omega | (simp; done) | (simp; omega)) _ | with_reducible refine Below.drew ?_ | (with_reducible refine Below.trans ?_ (Below.mono (by with_reducible assumption) (by first | omega | (simp; done) | (simp; omega)))) | (refine Below.trans ?_ (Below.mono (by assumption) (by first | omega | (simp; done) | (simp; omega))))))) (Reads.below o5 (by (repeat (first | with_reducible assumption | with_reducible exact Below.refl _ _ | with_reducible refine Below.setCell ?_ (by first | omega | (simp; done) | (simp; omega)) _ | with_reducible refine Below.alloc ?_ (by first | omega | (simp; done) | (simp; omega)) _ | with_reducible refine Below.drew ?_ | (with_reducible refine Below.trans ?_ (Below.mono (by with_reducible assumption) (by first | omega | (simp; done) | (simp; omega)))) | (refine Below.trans ?_ (Below.mono (by assumption) (by first | omega | (simp; done) | (simp; omega))))))))).mono ?_); rintro e w6 ⟨r3, rfl, o6, b6⟩; have z6 := b6.size; (try simp at z6); have d6 := fun o => (bcell b6).1 wr.heap.size o (by first | omega | (simp; done) | (simp; omega))))
          have b7 : Below WW6.heap.size WW6 w6 := by (repeat (first | with_reducible assumption | with_reducible exact Below.refl _ _ | with_reducible refine Below.setCell ?_ (by first | omega | (simp; done) | (simp; omega)) _ | with_reducible refine Below.alloc ?_ (by first | omega | (simp; done) | (simp; omega)) _ | with_reducible refine Below.drew ?_ | (with_reducible refine Below.trans ?_ (Below.mono (by with_reducible assumption) (by first | omega | (simp; done) | (simp; omega)))) | (refine Below.trans ?_ (Below.mono (by assumption) (by first | omega | (simp; done) | (simp; omega))))))
          have HB7 := Lib.hid (below2 HBW.out b7)
          rw [HS.out] at o6
          have HO6 := Lib.hid (owns_base o6 (by have := HBW.out.size; have := b3.size; have := b5.size; simp at *; omega : w.heap.size ≤ _))
          clear o3 o5 o6 b3 b5 b6 b7 d3 d5 d6
          go_wp2_with fail
          go_roundw
          case rel => exact ⟨2, by omega, by go_num, HO6.out, HB7.out⟩
          case measure => simp [intOf]
        · simp only [show ((2 : Nat) : Int) = 2 from rfl]
          have hix := fun (W : World) => (show (Instr.index 98 (.agg #[.int .i64 1, .int .i64 q.group, .int .i64 2, .int .i64 q.ping, .int .i64 3, .int .i64 q.work, .int .i64 4, .int .i64 q.time]) (.int .i64 2)).run Try.prog W = .ok (.agg #[.int .i64 3, .int .i64 q.work]) W by kernel_rfl)
          go_upto_region 10 with fail
          clear hix
          go_name_world WW6 hWW6
          have e60 : WW6.cell? ⟨wr.heap.size, 0, none⟩ = some (.int .i64 3) := by subst hWW6; (first | (simp (disch := first | omega | (simp; omega)) [World.cell?_alloc_past, World.frozen?_alloc_past, *]; done) | (simp (disch := first | omega | (simp; omega)) [World.cell?_setCell_far, World.cell?_alloc_past, *]; done) | (simp (disch := first | omega | (simp; omega)) [World.cell?_alloc_past, World.frozen?_alloc_past, *]; rfl) | (simp (disch := first | omega | (simp; omega)) [World.cell?_setCell_far, World.cell?_alloc_past, *]; rfl) | (simp [go_sem, *]; done) | (simp (disch := first | omega | (simp; omega) | (simp [go_sem, *]; done)) [go_sem, World.cell?_setCell_far, World.cell?_alloc_past, World.frozen?_alloc_past, *]; done))
          have e61 : WW6.cell? ⟨wr.heap.size, 1, none⟩ = some (.int .i64 q.work) := by subst hWW6; (first | (simp (disch := first | omega | (simp; omega)) [World.cell?_alloc_past, World.frozen?_alloc_past, *]; done) | (simp (disch := first | omega | (simp; omega)) [World.cell?_setCell_far, World.cell?_alloc_past, *]; done) | (simp (disch := first | omega | (simp; omega)) [World.cell?_alloc_past, World.frozen?_alloc_past, *]; rfl) | (simp (disch := first | omega | (simp; omega)) [World.cell?_setCell_far, World.cell?_alloc_past, *]; rfl) | (simp [go_sem, *]; done) | (simp (disch := first | omega | (simp; omega) | (simp [go_sem, *]; done)) [go_sem, World.cell?_setCell_far, World.cell?_alloc_past, World.frozen?_alloc_past, *]; done))
          have bw6 : Below wr.heap.size wr WW6 := by subst hWW6; (repeat (first | assumption | exact Below.refl _ _ | refine Below.setCell ?_ (by first | omega | (simp; done) | (simp; omega)) _ | refine Below.alloc ?_ (by first | omega | (simp; done) | (simp; omega)) _ | refine Below.drew ?_ | (refine Below.trans ?_ (Below.mono (by assumption) (by first | omega | (simp; done) | (simp; omega))))))
          have zw6 : _ := bw6.size
          have lW60 : wr.heap.size < WW6.heap.size := by subst hWW6; first | omega | (simp; done) | (simp; omega)
          clear hWW6
          have hRW : ReadsL peV 10 WW6 (.slice p l.length c) l := Reads.below h0.out (below2 HBk.out bw6)
          have hRA := Reads.below (owns_reads HRk.out) bw6
          have HBW := Lib.hid (below2 HBk.out bw6)
          have hAl : (lfL l q s 2).length ≤ 1000000 := Nat.le_trans (lfL_len l q s 2) hn
          have hPl : ∀ x ∈ (lfL l q s 2).map (rkGet l), x.fits := fun x hx => by
            obtain ⟨i, hi, rfl⟩ := List.mem_map.1 hx
            have hil := lfL_lt hi
            rw [rkGet_at (List.getElem?_eq_getElem hil)]
            exact hl _ (List.getElem_mem _)
          have HP := Lib.hid (fun W (hW : Below WW6.heap.size WW6 W) => sh_pick_any _ _ l (lfL l q s 2) (fun i hi => lfL_lt hi) W (Reads.below hRW hW) (Reads.below hRA hW) hAl)
          have HF := Lib.hid (fun r W (hW : ReadsL peV 10 W r ((lfL l q s 2).map (rkGet l))) => rk_first_any r _ hPl 3 q.work hq.2.2.1 s hs W hW (by rw [List.length_map]; exact hAl))
          have HS : Hid (dropL (lfL l q s 2) (rkFirst ((lfL l q s 2).map (rkGet l)) 3 q.work s) = lfL l q s 3) := lf_step l q s 2
          have HD := Lib.hid (fun r W (hW : Below WW6.heap.size WW6 W) (hr : Reads W r _ 1 ((rkFirst ((lfL l q s 2).map (rkGet l)) 3 q.work s).map natV)) => sh_drop_any _ r (lfL l q s 2) _ (fun g hg => by have := first_in hg; rwa [List.length_map] at this) W (Reads.below hRA hW) hr hAl (Nat.le_trans (first_len _ _ _ _) (by rw [List.length_map]; exact hAl)))
          clear hRW hRA hAl hPl
          go_region_held3 (fun w' => w'.cell? ⟨wr.heap.size, 0, none⟩ = some (.int .i64 3) ∧ w'.cell? ⟨wr.heap.size, 1, none⟩ = some (.int .i64 q.work)) (first | go_keep | (simp (disch := omega) [*])) (first | (go_at_call 96; (with_reducible refine (HP.out _ (by (repeat (first | with_reducible assumption | with_reducible exact Below.refl _ _ | with_reducible refine Below.setCell ?_ (by first | omega | (simp; done) | (simp; omega)) _ | with_reducible refine Below.alloc ?_ (by first | omega | (simp; done) | (simp; omega)) _ | with_reducible refine Below.drew ?_ | (with_reducible refine Below.trans ?_ (Below.mono (by with_reducible assumption) (by first | omega | (simp; done) | (simp; omega)))) | (refine Below.trans ?_ (Below.mono (by assumption) (by first | omega | (simp; done) | (simp; omega)))))))).mono ?_); rintro e w3 ⟨r1, rfl, o3, b3⟩; have z3 := b3.size; (try simp at z3); have d3 := fun o => (bcell b3).1 wr.heap.size o (by first | omega | (simp; done) | (simp; omega))) | (go_at_call 43; (with_reducible refine (HF.out _ _ (ReadsL.below o3 (by (repeat (first | with_reducible assumption | with_reducible exact Below.refl _ _ | with_reducible refine Below.setCell ?_ (by first | omega | (simp; done) | (simp; omega)) _ | with_reducible refine Below.alloc ?_ (by first | omega | (simp; done) | (simp; omega)) _ | with_reducible refine Below.drew ?_ | (with_reducible refine Below.trans ?_ (Below.mono (by with_reducible assumption) (by first | omega | (simp; done) | (simp; omega)))) | (refine Below.trans ?_ (Below.mono (by assumption) (by first | omega | (simp; done) | (simp; omega))))))))).mono ?_); rintro e w5 ⟨r2, rfl, o5, b5⟩; have z5 := b5.size; (try simp at z5); have d5 := fun o => (bcell b5).1 wr.heap.size o (by first | omega | (simp; done) | (simp; omega))) | (go_at_call 95; (with_reducible refine (HD.out _ _ (by (repeat (first | with_reducible assumption | with_reducible exact Below.refl _ _ | with_reducible refine Below.setCell ?_ (by first | omega | (simp; done) | (simp; omega)) _ | with_reducible refine Below.alloc ?_ (by first | omega | (simp; done) | (simp; omega)) _ | with_reducible refine Below.drew ?_ | (with_reducible refine Below.trans ?_ (Below.mono (by with_reducible assumption) (by first | omega | (simp; done) | (simp; omega)))) | (refine Below.trans ?_ (Below.mono (by assumption) (by first | omega | (simp; done) | (simp; omega))))))) (Reads.below o5 (by (repeat (first | with_reducible assumption | with_reducible exact Below.refl _ _ | with_reducible refine Below.setCell ?_ (by first | omega | (simp; done) | (simp; omega)) _ | with_reducible refine Below.alloc ?_ (by first | omega | (simp; done) | (simp; omega)) _ | with_reducible refine Below.drew ?_ | (with_reducible refine Below.trans ?_ (Below.mono (by with_reducible assumption) (by first | omega | (simp; done) | (simp; omega)))) | (refine Below.trans ?_ (Below.mono (by assumption) (by first | omega | (simp; done) | (simp; omega))))))))).mono ?_); rintro e w6 ⟨r3, rfl, o6, b6⟩; have z6 := b6.size; (try simp at z6); have d6 := fun o => (bcell b6).1 wr.heap.size o (by first | omega | (simp; done) | (simp; omega))))
          have b7 : Below WW6.heap.size WW6 w6 := by (repeat (first | with_reducible assumption | with_reducible exact Below.refl _ _ | with_reducible refine Below.setCell ?_ (by first | omega | (simp; done) | (simp; omega)) _ | with_reducible refine Below.alloc ?_ (by first | omega | (simp; done) | (simp; omega)) _ | with_reducible refine Below.drew ?_ | (with_reducible refine Below.trans ?_ (Below.mono (by with_reducible assumption) (by first | omega | (simp; done) | (simp; omega)))) | (refine Below.trans ?_ (Below.mono (by assumption) (by first | omega | (simp; done) | (simp; omega))))))
          have HB7 := Lib.hid (below2 HBW.out b7)
          rw [HS.out] at o6
          have HO6 := Lib.hid (owns_base o6 (by have := HBW.out.size; have := b3.size; have := b5.size; simp at *; omega : w.heap.size ≤ _))
          clear o3 o5 o6 b3 b5 b6 b7 d3 d5 d6
          go_wp2_with fail
          go_roundw
          case rel => exact ⟨3, by omega, by go_num, HO6.out, HB7.out⟩
          case measure => simp [intOf]
        · simp only [show ((3 : Nat) : Int) = 3 from rfl]
          have hix := fun (W : World) => (show (Instr.index 98 (.agg #[.int .i64 1, .int .i64 q.group, .int .i64 2, .int .i64 q.ping, .int .i64 3, .int .i64 q.work, .int .i64 4, .int .i64 q.time]) (.int .i64 3)).run Try.prog W = .ok (.agg #[.int .i64 4, .int .i64 q.time]) W by kernel_rfl)
          go_upto_region 10 with fail
          clear hix
          go_name_world WW6 hWW6
          have e60 : WW6.cell? ⟨wr.heap.size, 0, none⟩ = some (.int .i64 4) := by subst hWW6; (first | (simp (disch := first | omega | (simp; omega)) [World.cell?_alloc_past, World.frozen?_alloc_past, *]; done) | (simp (disch := first | omega | (simp; omega)) [World.cell?_setCell_far, World.cell?_alloc_past, *]; done) | (simp (disch := first | omega | (simp; omega)) [World.cell?_alloc_past, World.frozen?_alloc_past, *]; rfl) | (simp (disch := first | omega | (simp; omega)) [World.cell?_setCell_far, World.cell?_alloc_past, *]; rfl) | (simp [go_sem, *]; done) | (simp (disch := first | omega | (simp; omega) | (simp [go_sem, *]; done)) [go_sem, World.cell?_setCell_far, World.cell?_alloc_past, World.frozen?_alloc_past, *]; done))
          have e61 : WW6.cell? ⟨wr.heap.size, 1, none⟩ = some (.int .i64 q.time) := by subst hWW6; (first | (simp (disch := first | omega | (simp; omega)) [World.cell?_alloc_past, World.frozen?_alloc_past, *]; done) | (simp (disch := first | omega | (simp; omega)) [World.cell?_setCell_far, World.cell?_alloc_past, *]; done) | (simp (disch := first | omega | (simp; omega)) [World.cell?_alloc_past, World.frozen?_alloc_past, *]; rfl) | (simp (disch := first | omega | (simp; omega)) [World.cell?_setCell_far, World.cell?_alloc_past, *]; rfl) | (simp [go_sem, *]; done) | (simp (disch := first | omega | (simp; omega) | (simp [go_sem, *]; done)) [go_sem, World.cell?_setCell_far, World.cell?_alloc_past, World.frozen?_alloc_past, *]; done))
          have bw6 : Below wr.heap.size wr WW6 := by subst hWW6; (repeat (first | assumption | exact Below.refl _ _ | refine Below.setCell ?_ (by first | omega | (simp; done) | (simp; omega)) _ | refine Below.alloc ?_ (by first | omega | (simp; done) | (simp; omega)) _ | refine Below.drew ?_ | (refine Below.trans ?_ (Below.mono (by assumption) (by first | omega | (simp; done) | (simp; omega))))))
          have zw6 : _ := bw6.size
          have lW60 : wr.heap.size < WW6.heap.size := by subst hWW6; first | omega | (simp; done) | (simp; omega)
          clear hWW6
          have hRW : ReadsL peV 10 WW6 (.slice p l.length c) l := Reads.below h0.out (below2 HBk.out bw6)
          have hRA := Reads.below (owns_reads HRk.out) bw6
          have HBW := Lib.hid (below2 HBk.out bw6)
          have hAl : (lfL l q s 3).length ≤ 1000000 := Nat.le_trans (lfL_len l q s 3) hn
          have hPl : ∀ x ∈ (lfL l q s 3).map (rkGet l), x.fits := fun x hx => by
            obtain ⟨i, hi, rfl⟩ := List.mem_map.1 hx
            have hil := lfL_lt hi
            rw [rkGet_at (List.getElem?_eq_getElem hil)]
            exact hl _ (List.getElem_mem _)
          have HP := Lib.hid (fun W (hW : Below WW6.heap.size WW6 W) => sh_pick_any _ _ l (lfL l q s 3) (fun i hi => lfL_lt hi) W (Reads.below hRW hW) (Reads.below hRA hW) hAl)
          have HF := Lib.hid (fun r W (hW : ReadsL peV 10 W r ((lfL l q s 3).map (rkGet l))) => rk_first_any r _ hPl 4 q.time hq.2.2.2 s hs W hW (by rw [List.length_map]; exact hAl))
          have HS : Hid (dropL (lfL l q s 3) (rkFirst ((lfL l q s 3).map (rkGet l)) 4 q.time s) = lfL l q s 4) := lf_step l q s 3
          have HD := Lib.hid (fun r W (hW : Below WW6.heap.size WW6 W) (hr : Reads W r _ 1 ((rkFirst ((lfL l q s 3).map (rkGet l)) 4 q.time s).map natV)) => sh_drop_any _ r (lfL l q s 3) _ (fun g hg => by have := first_in hg; rwa [List.length_map] at this) W (Reads.below hRA hW) hr hAl (Nat.le_trans (first_len _ _ _ _) (by rw [List.length_map]; exact hAl)))
          clear hRW hRA hAl hPl
          go_region_held3 (fun w' => w'.cell? ⟨wr.heap.size, 0, none⟩ = some (.int .i64 4) ∧ w'.cell? ⟨wr.heap.size, 1, none⟩ = some (.int .i64 q.time)) (first | go_keep | (simp (disch := omega) [*])) (first | (go_at_call 96; (with_reducible refine (HP.out _ (by (repeat (first | with_reducible assumption | with_reducible exact Below.refl _ _ | with_reducible refine Below.setCell ?_ (by first | omega | (simp; done) | (simp; omega)) _ | with_reducible refine Below.alloc ?_ (by first | omega | (simp; done) | (simp; omega)) _ | with_reducible refine Below.drew ?_ | (with_reducible refine Below.trans ?_ (Below.mono (by with_reducible assumption) (by first | omega | (simp; done) | (simp; omega)))) | (refine Below.trans ?_ (Below.mono (by assumption) (by first | omega | (simp; done) | (simp; omega)))))))).mono ?_); rintro e w3 ⟨r1, rfl, o3, b3⟩; have z3 := b3.size; (try simp at z3); have d3 := fun o => (bcell b3).1 wr.heap.size o (by first | omega | (simp; done) | (simp; omega))) | (go_at_call 43; (with_reducible refine (HF.out _ _ (ReadsL.below o3 (by (repeat (first | with_reducible assumption | with_reducible exact Below.refl _ _ | with_reducible refine Below.setCell ?_ (by first | omega | (simp; done) | (simp; omega)) _ | with_reducible refine Below.alloc ?_ (by first | omega | (simp; done) | (simp; omega)) _ | with_reducible refine Below.drew ?_ | (with_reducible refine Below.trans ?_ (Below.mono (by with_reducible assumption) (by first | omega | (simp; done) | (simp; omega)))) | (refine Below.trans ?_ (Below.mono (by assumption) (by first | omega | (simp; done) | (simp; omega))))))))).mono ?_); rintro e w5 ⟨r2, rfl, o5, b5⟩; have z5 := b5.size; (try simp at z5); have d5 := fun o => (bcell b5).1 wr.heap.size o (by first | omega | (simp; done) | (simp; omega))) | (go_at_call 95; (with_reducible refine (HD.out _ _ (by (repeat (first | with_reducible assumption | with_reducible exact Below.refl _ _ | with_reducible refine Below.setCell ?_ (by first | omega | (simp; done) | (simp; omega)) _ | with_reducible refine Below.alloc ?_ (by first | omega | (simp; done) | (simp; omega)) _ | with_reducible refine Below.drew ?_ | (with_reducible refine Below.trans ?_ (Below.mono (by with_reducible assumption) (by first | omega | (simp; done) | (simp; omega)))) | (refine Below.trans ?_ (Below.mono (by assumption) (by first | omega | (simp; done) | (simp; omega))))))) (Reads.below o5 (by (repeat (first | with_reducible assumption | with_reducible exact Below.refl _ _ | with_reducible refine Below.setCell ?_ (by first | omega | (simp; done) | (simp; omega)) _ | with_reducible refine Below.alloc ?_ (by first | omega | (simp; done) | (simp; omega)) _ | with_reducible refine Below.drew ?_ | (with_reducible refine Below.trans ?_ (Below.mono (by with_reducible assumption) (by first | omega | (simp; done) | (simp; omega)))) | (refine Below.trans ?_ (Below.mono (by assumption) (by first | omega | (simp; done) | (simp; omega))))))))).mono ?_); rintro e w6 ⟨r3, rfl, o6, b6⟩; have z6 := b6.size; (try simp at z6); have d6 := fun o => (bcell b6).1 wr.heap.size o (by first | omega | (simp; done) | (simp; omega))))
          have b7 : Below WW6.heap.size WW6 w6 := by (repeat (first | with_reducible assumption | with_reducible exact Below.refl _ _ | with_reducible refine Below.setCell ?_ (by first | omega | (simp; done) | (simp; omega)) _ | with_reducible refine Below.alloc ?_ (by first | omega | (simp; done) | (simp; omega)) _ | with_reducible refine Below.drew ?_ | (with_reducible refine Below.trans ?_ (Below.mono (by with_reducible assumption) (by first | omega | (simp; done) | (simp; omega)))) | (refine Below.trans ?_ (Below.mono (by assumption) (by first | omega | (simp; done) | (simp; omega))))))
          have HB7 := Lib.hid (below2 HBW.out b7)
          rw [HS.out] at o6
          have HO6 := Lib.hid (owns_base o6 (by have := HBW.out.size; have := b3.size; have := b5.size; simp at *; omega : w.heap.size ≤ _))
          clear o3 o5 o6 b3 b5 b6 b7 d3 d5 d6
          go_wp2_with fail
          go_roundw
          case rel => exact ⟨4, by omega, by go_num, HO6.out, HB7.out⟩
          case measure => simp [intOf]
theorem usedV_congr {n : Nat} {O O' : List Nat} (h : ∀ i, i < n → (i ∈ O ↔ i ∈ O')) : usedV n O = usedV n O' := by
  unfold usedV
  refine List.map_congr_left fun i hi => ?_
  congr 1
  exact decide_eq_decide.2 (h i (List.mem_range.1 hi))
theorem usedV_unset {n j : Nat} {O : List Nat} (h : j < n) : (usedV n O).set j (.bool false) = usedV n (O.filter fun i => decide (i ≠ j)) := by
  apply List.ext_getElem?
  intro i
  by_cases hi : i < n
  · rw [List.getElem?_set, usedV_len]
    by_cases e : j = i
    · subst e
      rw [if_pos rfl, if_pos h, usedV_get h, decide_eq_false (show ¬ j ∈ O.filter fun i => decide (i ≠ j) by simp)]
    · rw [if_neg e, usedV_get hi, usedV_get hi]
      congr 2
      refine decide_eq_decide.2 ?_
      rw [List.mem_filter, decide_eq_true_eq]
      exact ⟨fun h => ⟨h, fun e2 => e e2.symm⟩, fun h => h.1⟩
  · rw [List.getElem?_eq_none (by simp [usedV_len]; omega), List.getElem?_eq_none (by simp [usedV_len]; omega)]
theorem owns_setB {w : World} {base n U i : Nat} {e : TypeId} {size : Nat} {v x : Value} {xs us : List Value} {T : TypeId} (h : w.ownsRow base e size v n xs) (hb : BlockIs w U us T) (hne : v.ownBlock ≠ some U) : (w.setCell ⟨U, i, none⟩ x).ownsRow base e size v n xs := by
  obtain ⟨h1, h2⟩ := h
  refine ⟨h1, ?_⟩
  rcases h2 with h2 | ⟨g, cap, cur, rfl, hg, hh, r⟩
  · exact Or.inl h2
  · refine Or.inr ⟨g, cap, cur, rfl, hg, ?_, r⟩
    have hgu : g ≠ U := fun e => hne (by rw [e]; rfl)
    rw [← hh]; exact Below.heap_setCell _ _ _ _ (fun e => hgu e)
theorem reads_used {w : World} {B n : Nat} {T : TypeId} {O : List Nat} (hB : BlockIs w B (usedV n O) T) (hm : n ≤ 1000000) : Reads w (.slice (some ⟨B, 0, none⟩) n n) n 1 (usedV n O) := by
  refine ⟨by rw [usedV_len]; omega, by omega, ?_⟩
  rcases Nat.eq_zero_or_pos n with h0 | h0
  · exact Or.inl ⟨h0, _, _, by rw [h0]⟩
  · exact Or.inr ⟨h0, B, 0, n, rfl, Nat.le_refl _, hB.lt, fun j x hj => by rw [Nat.zero_add]; exact hB.cell hj⟩
set_option maxRecDepth 100000 in
set_option maxHeartbeats 16000000 in
theorem sh_saved_any (v : Value) (l : List Pe) (hl : ∀ x ∈ l, x.fits) (q : Qu) (hq : q.fits) (s : Nat) (hs : s < 18446744073709551616) (w : World) (h : ReadsL peV 10 w v l) (hn : l.length ≤ 1000000) :
    Calls Try.prog 51 #[v, .agg #[.int .i64 q.group, .int .i64 q.ping, .int .i64 q.work, .int .i64 q.time], .int .u64 s] w fun e w' => ∃ r, e = .returned r ∧ Reads w' r l.length 1 (usedV l.length (svO l q s 4)) ∧ Below w.heap.size w w' := by
  have h0 := Lib.hid h
  obtain ⟨hm, p, c, rfl, h3⟩ := pes_open h
  clear h h3
  have hmk := fun W => run_make_bools l.length hn W
  go_enter Try.func51, Try.ntmps51
  go_upto_region 3 with fail
  clear hmk
  go_name_world W0 hW0
  have hA0 : BlockIs W0 (w.heap.size + 1) (usedV l.length []) 4 := by subst hW0; exact BlockIs.newAt' _ _ _ (by simp)
  have d0 : W0.cell? ⟨w.heap.size, 0, none⟩ = some (.int .i64 q.group) := by subst hW0; (first | (simp [go_sem, *]; done) | (simp (disch := first | omega | (simp; omega) | (simp [go_sem, *]; done)) [go_sem, World.cell?_setCell_far, World.cell?_alloc_past, World.frozen?_alloc_past, *]; done))
  have d1 : W0.cell? ⟨w.heap.size, 1, none⟩ = some (.int .i64 q.ping) := by subst hW0; (first | (simp [go_sem, *]; done) | (simp (disch := first | omega | (simp; omega) | (simp [go_sem, *]; done)) [go_sem, World.cell?_setCell_far, World.cell?_alloc_past, World.frozen?_alloc_past, *]; done))
  have d2 : W0.cell? ⟨w.heap.size, 2, none⟩ = some (.int .i64 q.work) := by subst hW0; (first | (simp [go_sem, *]; done) | (simp (disch := first | omega | (simp; omega) | (simp [go_sem, *]; done)) [go_sem, World.cell?_setCell_far, World.cell?_alloc_past, World.frozen?_alloc_past, *]; done))
  have d3 : W0.cell? ⟨w.heap.size, 3, none⟩ = some (.int .i64 q.time) := by subst hW0; (first | (simp [go_sem, *]; done) | (simp (disch := first | omega | (simp; omega) | (simp [go_sem, *]; done)) [go_sem, World.cell?_setCell_far, World.cell?_alloc_past, World.frozen?_alloc_past, *]; done))
  have b0 : Below w.heap.size w W0 := by subst hW0; (repeat (first | with_reducible assumption | with_reducible exact Below.refl _ _ | with_reducible refine Below.setCell ?_ (by first | omega | (simp; done) | (simp; omega)) _ | with_reducible refine Below.alloc ?_ (by first | omega | (simp; done) | (simp; omega)) _ | with_reducible refine Below.drew ?_ | (with_reducible refine Below.trans ?_ (Below.mono (by with_reducible assumption) (by first | omega | (simp; done) | (simp; omega)))) | (refine Below.trans ?_ (Below.mono (by assumption) (by first | omega | (simp; done) | (simp; omega))))))
  have z0 : w.heap.size + 2 ≤ W0.heap.size := by subst hW0; simp
  obtain ⟨U, hU⟩ : ∃ U, U = w.heap.size + 1 := ⟨_, rfl⟩
  rw [← hU] at hA0
  rw [← hU]
  have HA0 := Lib.hid hA0; have HB0 := Lib.hid b0; have HUU := Lib.hid hU; have HZ := Lib.hid z0
  have HD0 := Lib.hid d0; have HD1 := Lib.hid d1; have HD2 := Lib.hid d2; have HD3 := Lib.hid d3
  clear hW0 hA0 b0 hU z0 d0 d1 d2 d3
  go_loopw [16] (fun i' wr => ∃ k : Nat, k ≤ l.length ∧ i' = .int .i64 k ∧ Hid (BlockIs wr U (usedV l.length (List.range k)) 4) ∧ Hid (Below U W0 wr)) (fun i' _ => l.length - (intOf i').toNat)
  case atStart => exact ⟨0, by omega, rfl, HA0.out, Below.refl _ _⟩
  case round =>
    obtain ⟨k, hk, rfl, HAk, HB⟩ := hrel
    by_cases hlt : k < l.length
    · have q1 : (0 : Int) ≤ (k : Int) := by omega
      have q2 : (k : Int) < (l.length : Int) := by omega
      have hcu := HAk.out.cell (usedV_get (O := List.range k) hlt)
      have hfu := HAk.out.frozen k
      have hUl := HAk.out.lt
      go_upto_region 6 with fail
      go_name_world W5 hW5
      have hA5 : BlockIs W5 U (usedV l.length (List.range (k + 1))) 4 := by subst hW5; rw [List.range_succ, ← usedV_set hlt]; exact HAk.out.set k _
      have hB5 : Below U W0 W5 := by subst hW5; exact HB.out.setCell (Nat.le_refl _) _
      clear hW5 hcu hfu
      have HA5 := Lib.hid hA5; have HB5 := Lib.hid hB5
      clear hA5 hB5
      go_wp2_with fail
      go_roundw
      case rel => exact ⟨k + 1, by omega, by go_num, HA5.out, HB5.out⟩
      case measure => simp [intOf]; omega
    · obtain rfl : k = l.length := by omega
      have hUl := HAk.out.lt
      have HBw : Hid (Below w.heap.size w wr) := HB0.out.trans (HB.out.mono (by have := HUU.out; omega))
      have e0 := keep HB.out (show w.heap.size < U by have := HUU.out; omega) HD0.out
      have e1 := keep HB.out (show w.heap.size < U by have := HUU.out; omega) HD1.out
      have e2 := keep HB.out (show w.heap.size < U by have := HUU.out; omega) HD2.out
      have e3 := keep HB.out (show w.heap.size < U by have := HUU.out; omega) HD3.out
      have HL := Lib.hid (fun W (hW : Below w.heap.size w W) => sh_left_any _ l hl q hq s hs W (Reads.below h0.out hW) hn)
      go_upto_region 8 with (go_at_call 53; (with_reducible refine (HL.out _ HBw.out).mono ?_); rintro e w4 ⟨r4, rfl, o4, b4⟩; obtain ⟨a4, c4, rfl⟩ := owns_slice o4)
      have HU4 : Hid (BlockIs w4 U (usedV l.length ((List.range l.length).filter fun i => decide (i ∉ (lfL l q s 4).take 0))) 4) := by
        have := (HAk.out).below b4
        rwa [show (List.range l.length).filter (fun i => decide (i ∉ (lfL l q s 4).take 0)) = List.range l.length from List.filter_eq_self.2 fun _ _ => by simp]
      have HNE : Hid ((Value.slice a4 (lfL l q s 4).length c4).ownBlock ≠ some U) := fun e => by have := (o4.lt U e).1; omega
      have HB4 := Lib.hid (below2 HBw.out b4)
      have HO4 := Lib.hid o4
      have hLl : (lfL l q s 4).length ≤ 1000000 := Nat.le_trans (lfL_len l q s 4) hn
      clear e0 e1 e2 e3 o4
      obtain ⟨wp, rfl⟩ : ∃ wp : World, wp = wr := ⟨_, rfl⟩
      go_loopw [28] (fun i' wr => ∃ k : Nat, k ≤ (lfL l q s 4).length ∧ i' = .int .i64 k ∧ Hid (BlockIs wr U (usedV l.length ((List.range l.length).filter fun i => decide (i ∉ (lfL l q s 4).take k))) 4) ∧ Hid (wr.ownsRow wp.heap.size 3 1 (.slice a4 (lfL l q s 4).length c4) (lfL l q s 4).length ((lfL l q s 4).map natV)) ∧ Hid (Below w.heap.size w wr)) (fun i' _ => (lfL l q s 4).length - (intOf i').toNat)
      case atStart => exact ⟨0, by omega, rfl, HU4.out, HO4.out, HB4.out⟩
      case round =>
        obtain ⟨k, hk, rfl, HUk, HOk, HBk⟩ := hrel
        by_cases hlt : k < (lfL l q s 4).length
        · obtain ⟨g, hg⟩ : ∃ g, (lfL l q s 4)[k]? = some g := ⟨_, List.getElem?_eq_getElem hlt⟩
          have hgl : g < l.length := lfL_lt (List.mem_of_getElem? hg)
          obtain ⟨_, _, _, _, e9, k1⟩ := (owns_reads HOk.out).open
          injection e9 with e91 e92 e93
          subst e91 e93
          obtain ⟨bx, ox, rfl, hcx, hbx, hxx⟩ := k1 (by omega)
          have g1 : wr.cell? ⟨bx, ox + k, none⟩ = some (.int .i64 g) := (hxx k (natV g) (by rw [List.getElem?_map, hg]; rfl))
          have q1 : (0 : Int) ≤ (k : Int) := by omega
          have q2 : (k : Int) < ((lfL l q s 4).length : Int) := by omega
          have q3 : (0 : Int) ≤ (g : Int) := by omega
          have q4 : (g : Int) < (l.length : Int) := by omega
          have hcu := HUk.out.cell (usedV_get (O := (List.range l.length).filter fun i => decide (i ∉ (lfL l q s 4).take k)) hgl)
          have hfu := HUk.out.frozen g
          have hUl := HUk.out.lt
          have HG := Lib.hid hg; have HGL := Lib.hid hgl
          clear hg hgl hxx k1
          go_upto_region 11 with fail
          go_name_world W5 hW5
          have hU5 : BlockIs W5 U (usedV l.length ((List.range l.length).filter fun i => decide (i ∉ (lfL l q s 4).take (k + 1)))) 4 := by
            subst hW5
            rw [List.take_add_one, HG.out, Option.toList_some, usedV_congr (O' := ((List.range l.length).filter fun i => decide (i ∉ (lfL l q s 4).take k)).filter fun i => decide (i ≠ g)) (fun i hi => by simp [hi, not_or]; exact And.comm), ← usedV_unset HGL.out]
            exact HUk.out.set g _
          have hO5 := owns_setB (i := g) (x := .bool false) HOk.out HUk.out HNE.out
          rw [hW5] at hO5
          have hB5 : Below w.heap.size w W5 := by subst hW5; exact HBk.out.setCell (by show w.heap.size ≤ U; have := HUU.out; omega) _
          clear hW5 hcu hfu
          have HU5 := Lib.hid hU5; have HB5 := Lib.hid hB5; have HO5 := Lib.hid hO5
          clear hU5 hB5 hO5
          go_wp2_with fail
          go_roundw
          case rel => exact ⟨k + 1, by omega, by go_num, HU5.out, HO5.out, HB5.out⟩
          case measure => simp [intOf]; omega
        · obtain rfl : k = (lfL l q s 4).length := by omega
          have HF : Hid (Reads wr (.slice (some ⟨U, 0, none⟩) l.length l.length) l.length 1 (usedV l.length (svO l q s 4))) := by
            have := HUk.out
            rw [List.take_length, usedV_congr (O' := svO l q s 4) (fun i hi => by
              rw [List.mem_filter, decide_eq_true_eq]
              unfold lfL
              rw [left_mem]
              simp only [List.mem_range, hi, true_and, Classical.not_not])] at this
            exact reads_used this hn
          go_wp2_with fail
          go_ret
          exact ⟨_, rfl, HF.out, HBk.out⟩
end Go.Proofs.Ytdjmejdfcceknaa
/- The contracts of the document's Saved and Left, and of Bools. Conditions: numbers are 64 bits. -/
namespace Go.Proofs.Ytdjmejdfcceknaa
open Go.RowKit
set_option linter.unusedSimpArgs false
set_option linter.unusedVariables false

set_option maxRecDepth 100000 in
set_option maxHeartbeats 16000000 in
theorem ref_saved_any (v : Value) (l : List Pe) (hl : ∀ x ∈ l, x.fits) (qu : Qu) (s : Nat) (hs : s < 18446744073709551616) (w : World) (h : ReadsL peV 10 w v l) (hn : l.length ≤ 1000000) :
    Calls Try.prog 52 #[v, .agg #[.int .i64 qu.group, .int .i64 qu.ping, .int .i64 qu.work, .int .i64 qu.time], .int .u64 s] w fun e w' => ∃ r, e = .returned r ∧ Reads w' r l.length 1 (usedV l.length (svO l qu s 4)) ∧ Below w.heap.size w w' := by
  obtain ⟨hm, p, c, rfl, h3⟩ := pes_open h
  clear h
  have hmk := fun W => run_make_bools l.length hn W
  go_enter Try.func52, Try.ntmps52
  go_upto_region 3 with fail
  clear hmk
  go_name_world W0 hW0
  have hA0 : BlockIs W0 (w.heap.size + 1) (usedV l.length []) 4 := by subst hW0; exact BlockIs.newAt' _ _ _ (by simp)
  have d0 : W0.cell? ⟨w.heap.size, 0, none⟩ = some (.int .i64 qu.group) := by subst hW0; (first | (simp [go_sem, *]; done) | (simp (disch := first | omega | (simp; omega) | (simp [go_sem, *]; done)) [go_sem, World.cell?_setCell_far, World.cell?_alloc_past, World.frozen?_alloc_past, *]; done))
  have d1 : W0.cell? ⟨w.heap.size, 1, none⟩ = some (.int .i64 qu.ping) := by subst hW0; (first | (simp [go_sem, *]; done) | (simp (disch := first | omega | (simp; omega) | (simp [go_sem, *]; done)) [go_sem, World.cell?_setCell_far, World.cell?_alloc_past, World.frozen?_alloc_past, *]; done))
  have d2 : W0.cell? ⟨w.heap.size, 2, none⟩ = some (.int .i64 qu.work) := by subst hW0; (first | (simp [go_sem, *]; done) | (simp (disch := first | omega | (simp; omega) | (simp [go_sem, *]; done)) [go_sem, World.cell?_setCell_far, World.cell?_alloc_past, World.frozen?_alloc_past, *]; done))
  have d3 : W0.cell? ⟨w.heap.size, 3, none⟩ = some (.int .i64 qu.time) := by subst hW0; (first | (simp [go_sem, *]; done) | (simp (disch := first | omega | (simp; omega) | (simp [go_sem, *]; done)) [go_sem, World.cell?_setCell_far, World.cell?_alloc_past, World.frozen?_alloc_past, *]; done))
  have b0 : Below w.heap.size w W0 := by subst hW0; (repeat (first | with_reducible assumption | with_reducible exact Below.refl _ _ | with_reducible refine Below.setCell ?_ (by first | omega | (simp; done) | (simp; omega)) _ | with_reducible refine Below.alloc ?_ (by first | omega | (simp; done) | (simp; omega)) _ | with_reducible refine Below.drew ?_ | (with_reducible refine Below.trans ?_ (Below.mono (by with_reducible assumption) (by first | omega | (simp; done) | (simp; omega)))) | (refine Below.trans ?_ (Below.mono (by assumption) (by first | omega | (simp; done) | (simp; omega))))))
  have z0 : w.heap.size + 2 ≤ W0.heap.size := by subst hW0; simp
  obtain ⟨U, hU⟩ : ∃ U, U = w.heap.size + 1 := ⟨_, rfl⟩
  rw [← hU] at hA0
  rw [← hU]
  have HA0 := Lib.hid hA0; have HB00 := Lib.hid b0; have HUU := Lib.hid hU; have HZ := Lib.hid z0
  have HD0 := Lib.hid d0; have HD1 := Lib.hid d1; have HD2 := Lib.hid d2; have HD3 := Lib.hid d3
  clear hW0 hA0 b0 hU z0 d0 d1 d2 d3
  go_loopw [8] (fun b' wr => ∃ c ob : Nat, Hid (ob = c + 1) ∧ c ≤ 4 ∧ b' = .int .i64 ob ∧ Hid (BlockIs wr U (usedV l.length (svO l qu s c)) 4) ∧ Hid (Below U W0 wr)) (fun b' _ => 6 - (intOf b').toNat)
  case atStart => exact ⟨0, 1, rfl, by omega, rfl, HA0.out, Below.refl _ _⟩
  case round =>
    obtain ⟨cc0, ob, HOB, hc, rfl, HUc, HBc⟩ := hrel
    by_cases hb4 : (ob : Int) ≤ 4
    · have HN : Hid (svO l qu s (cc0 + 1) = svO l qu s cc0 ++ (ssort (rkLt l (ob : Int) s) (leftOf (rkIdx l (ob : Int) l.length) (svO l qu s cc0))).take (quN qu ob).toNat) := by
        show _ = _; rw [HOB.out]; rfl
      obtain ⟨n, hqn⟩ : ∃ n, n = quN qu ob := ⟨_, rfl⟩
      rw [← hqn] at HN
      have HQ : Hid (∀ w, Calls Try.prog 94 #[.agg #[.int .i64 qu.group, .int .i64 qu.ping, .int .i64 qu.work, .int .i64 qu.time], .int .i64 ob] w fun e w' => e = .returned (.int .i64 n) ∧ Below w.heap.size w w') := fun w => hqn ▸ refQuota_any qu ob w
      clear hqn
      obtain ⟨O0, hO0⟩ : ∃ O0, O0 = svO l qu s cc0 := ⟨_, rfl⟩
      rw [← hO0] at HN HUc
      clear hO0
      go_wp2_with fail
      obtain ⟨wb, rfl⟩ : ∃ wb : World, wb = wr := ⟨_, rfl⟩
      go_loopw [9] (fun t' wr => ∃ (t : Nat) (T O : List Nat), t ≤ l.length ∧ (t : Int) ≤ max n 0 ∧ t' = .int .i64 t ∧ Hid (O = O0 ++ T) ∧ Hid (T.length ≤ t) ∧ Hid (T.length = t ∨ leftOf (rkIdx l (ob : Int) l.length) O = []) ∧ Hid (BlockIs wr U (usedV l.length O) 4) ∧ Hid (Below U W0 wr) ∧ Hid (ssort (rkLt l (ob : Int) s) (leftOf (rkIdx l (ob : Int) l.length) O0) = T ++ ssort (rkLt l (ob : Int) s) (leftOf (rkIdx l (ob : Int) l.length) O))) (fun t' _ => l.length - (intOf t').toNat)
      case atStart => exact ⟨0, [], O0, by omega, by omega, rfl, (by simp : O0 = O0 ++ []), Nat.le_refl _, Or.inl rfl, HUc.out, HBc.out, rfl⟩
      case round =>
        obtain ⟨t, T, O, ht, htn, rfl, HOT, HTl, HTd, HU, HBU, HS⟩ := hrel
        obtain ⟨wo, rfl⟩ : ∃ wo : World, wo = wr := ⟨_, rfl⟩
        have HB0 : Hid (Below w.heap.size w wo) := HB00.out.trans (HBU.out.mono (by have := HUU.out; omega))
        have g0 := keep HBU.out (show w.heap.size < U by have := HUU.out; omega) HD0.out
        have g1 := keep HBU.out (show w.heap.size < U by have := HUU.out; omega) HD1.out
        have g2 := keep HBU.out (show w.heap.size < U by have := HUU.out; omega) HD2.out
        have g3 := keep HBU.out (show w.heap.size < U by have := HUU.out; omega) HD3.out
        have HDone : Hid ((t : Int) ≥ n ∨ t = l.length → O = svO l qu s (cc0 + 1)) := fun he => by
          have hSl : (ssort (rkLt l (ob : Int) s) (leftOf (rkIdx l (ob : Int) l.length) O0)).length ≤ l.length := by
            rw [ssort_len]
            refine Nat.le_trans (List.length_filter_le _ _) (Nat.le_trans (List.length_filter_le _ _) ?_)
            rw [List.length_range]; exact Nat.le_refl _
          rw [HN.out, HOT.out, ← take_done (t := t) (n := n.toNat) HS.out HTl.out (HTd.out.imp id fun h => by rw [h]; rfl) (by omega) (by
            rcases he with he | he
            · left; omega
            · right; omega)]
        by_cases hc1 : (t : Int) < n
        · by_cases hc2 : t < l.length
          · have hc2z : (t : Int) < (l.length : Int) := by omega
            obtain ⟨b, o, rfl, h4, h5, h6⟩ := h3 (by omega)
            clear h3
            go_wp2_with (go_at_call 94; (with_reducible refine (HQ.out _).mono ?_); rintro e w6 ⟨rfl, b6⟩)
            clear g0 g1 g2 g3
            go_loopw [10, 11] (fun a' i' wr => ∃ i : Nat, i ≤ l.length ∧ i' = .int .i64 i ∧ a' = .int .i64 (atI (pickL (rkLt l (ob : Int) s) (leftOf (rkIdx l (ob : Int) i) O))) ∧ Hid (Below wo.heap.size wo wr)) (fun _ i' _ => l.length - (intOf i').toNat)
            case atStart => exact ⟨0, by omega, rfl, rfl, b6⟩
            case round =>
              obtain ⟨i, hi, rfl, rfl, HB2⟩ := hrel
              have HU2 := HU
              by_cases hlt : i < l.length
              · obtain ⟨p, hp⟩ : ∃ p, l[i]? = some p := ⟨_, List.getElem?_eq_getElem hlt⟩
                have hu := fun y => (HU2.out.below (HB2.out.trans (ext_below wr y |>.mono HB2.out.size))).cell (usedV_get (O := O) hlt)
                have q1 : (0 : Int) ≤ (i : Int) := by omega
                have q2 : (i : Int) < (l.length : Int) := by omega
                have K := ((h6 i p hp).below (HB0.out.trans (HB2.out.mono HB0.out.size)) h5).ext (Nat.lt_of_lt_of_le h5 (HB0.out.trans (HB2.out.mono HB0.out.size)).size)
                have x0 := fun y => (K y).1; have x1 := fun y => (K y).2.1; have x2 := fun y => (K y).2.2.1; have x3 := fun y => (K y).2.2.2.1; have x4 := fun y => (K y).2.2.2.2.1; have x5 := fun y => (K y).2.2.2.2.2.1; have x6 := fun y => (K y).2.2.2.2.2.2.1; have x7 := fun y => (K y).2.2.2.2.2.2.2.1; have x8 := fun y => (K y).2.2.2.2.2.2.2.2.1; have x9 := fun y => (K y).2.2.2.2.2.2.2.2.2
                have hg := rkGet_at hp
                have HC := Lib.hid (fun w => ref_counts_any p (ob : Int) w)
                clear K
                by_cases hin : i ∈ O
                · have HR : Hid (pickL (rkLt l (ob : Int) s) (leftOf (rkIdx l (ob : Int) (i + 1)) O) = pickL (rkLt l (ob : Int) s) (leftOf (rkIdx l (ob : Int) i) O)) := pick_skip (Or.inl hin)
                  have hu' : ∀ y, (Go.Proofs.Ytdjmejdfcceknaa.ext wr y).cell? ⟨U, i, none⟩ = some (.bool true) := fun y => by rw [hu y, decide_eq_true hin]
                  have HA : Hid True := trivial
                  clear hu hg hp hin
                  go_wp2_with fail
                  refine wp_region_ext (by kernel_rfl) (by kernel_rfl) ?_
                  repeat (go_big_quiet_step ((first | (go_at_call 39; with_reducible exact qe (HC.out _)) | (go_at_call 41; with_reducible exact qe (HA.out _)))))
                  refine wpQuiet_nil ?_
                  intro _ hw'
                  obtain ⟨gx, hw'''⟩ := hw'
                  subst hw'''
                  clear hu' x0 x1 x2 x3 x4 x5 x6 x7 x8 x9
                  have b8 := below2 HB2.out (ext_below wr gx)
                  go_wp2_with fail
                  go_roundw
                  case rel => exact ⟨i + 1, by omega, by go_num, by rw [HR.out], b8⟩
                  case measure => simp [intOf]; omega

                have hu' : ∀ y, (Go.Proofs.Ytdjmejdfcceknaa.ext wr y).cell? ⟨U, i, none⟩ = some (.bool false) := fun y => by rw [hu y, decide_eq_false hin]
                clear hu
                cases hcc : rkCounts p (ob : Int) with
                | false =>
                  have HR : Hid (pickL (rkLt l (ob : Int) s) (leftOf (rkIdx l (ob : Int) (i + 1)) O) = pickL (rkLt l (ob : Int) s) (leftOf (rkIdx l (ob : Int) i) O)) := pick_skip (Or.inr (by rw [hg]; exact hcc))
                  have HA : Hid True := trivial
                  have HC0 := HC.out
                  rw [hcc] at HC0
                  clear HC
                  have HC := Lib.hid HC0
                  clear HC0 hg hp hin hcc
                  go_wp2_with fail
                  refine wp_region_ext (by kernel_rfl) (by kernel_rfl) ?_
                  repeat (go_big_quiet_step ((first | (go_at_call 39; with_reducible exact qe (HC.out _)) | (go_at_call 41; with_reducible exact qe (HA.out _)))))
                  refine wpQuiet_nil ?_
                  intro _ hw'
                  obtain ⟨gx, hw'''⟩ := hw'
                  subst hw'''
                  clear hu' x0 x1 x2 x3 x4 x5 x6 x7 x8 x9
                  have b8 := below2 HB2.out (ext_below wr gx)
                  go_wp2_with fail
                  go_roundw
                  case rel => exact ⟨i + 1, by omega, by go_num, by rw [HR.out], b8⟩
                  case measure => simp [intOf]; omega

                | true =>
                  have HR := Lib.hid (pick_take (s := s) hin (show rkCounts (rkGet l i) (ob : Int) = true by rw [hg]; exact hcc))
                  have HC0 := HC.out
                  rw [hcc] at HC0
                  clear HC
                  have HC := Lib.hid HC0
                  clear HC0
                  cases hpk : pickL (rkLt l (ob : Int) s) (leftOf (rkIdx l (ob : Int) i) O) with
                  | none =>
                    have hat : atI none = -1 := rfl
                    rw [hpk] at HR
                    have HA : Hid True := trivial
                    simp only [hat]
                    clear hg hp hin hcc hpk hat
                    go_wp2_with fail
                    refine wp_region_ext (by kernel_rfl) (by kernel_rfl) ?_
                    repeat (go_big_quiet_step ((first | (go_at_call 39; with_reducible exact qe (HC.out _)) | (go_at_call 41; with_reducible exact qe (HA.out _)))))
                    refine wpQuiet_nil ?_
                    intro _ hw'
                    obtain ⟨gx, hw'''⟩ := hw'
                    subst hw'''
                    clear hu' x0 x1 x2 x3 x4 x5 x6 x7 x8 x9
                    have b8 := below2 HB2.out (ext_below wr gx)
                    go_wp2_with fail
                    go_roundw
                    case rel => exact ⟨i + 1, by omega, by go_num, by rw [HR.out]; rfl, b8⟩
                    case measure => simp [intOf]; omega

                  | some j =>
                    have hji := pick_in hpk
                    have hjl : j < l.length := by omega
                    obtain ⟨pj, hpj⟩ : ∃ p, l[j]? = some p := ⟨_, List.getElem?_eq_getElem hjl⟩
                    have K2 := ((h6 j pj hpj).below (HB0.out.trans (HB2.out.mono HB0.out.size)) h5).ext (Nat.lt_of_lt_of_le h5 (HB0.out.trans (HB2.out.mono HB0.out.size)).size)
                    have y0 := fun y => (K2 y).1; have y1 := fun y => (K2 y).2.1; have y2 := fun y => (K2 y).2.2.1; have y3 := fun y => (K2 y).2.2.2.1; have y4 := fun y => (K2 y).2.2.2.2.1; have y5 := fun y => (K2 y).2.2.2.2.2.1; have y6 := fun y => (K2 y).2.2.2.2.2.2.1; have y7 := fun y => (K2 y).2.2.2.2.2.2.2.1; have y8 := fun y => (K2 y).2.2.2.2.2.2.2.2.1; have y9 := fun y => (K2 y).2.2.2.2.2.2.2.2.2
                    have q3 : (0 : Int) ≤ (j : Int) := by omega
                    have q4 : (j : Int) < (l.length : Int) := by omega
                    have hin4 := counts_in hcc
                    have hlt2 : rkLt l (ob : Int) s i j = rkAhead p pj (ob : Int) s := by rw [rkAhead_in hin4.1 hin4.2]; unfold rkLt; rw [hg, rkGet_at hpj]
                    have hA0 := fun w => ref_ahead_any p pj (hl p (List.mem_of_getElem? hp)) (hl pj (List.mem_of_getElem? hpj)) (ob : Int) s hs w
                    rw [hpk] at HR
                    have hat : atI (some j) = (j : Int) := rfl
                    have hnj : ¬ ((j : Int) < 0) := by omega
                    have hnjd : decide ((j : Int) < 0) = false := decide_eq_false hnj
                    simp only [hat]
                    cases haa : rkAhead p pj (ob : Int) s with
                    | true =>
                      have HR2 : Hid (pickL (rkLt l (ob : Int) s) (leftOf (rkIdx l (ob : Int) (i + 1)) O) = some i) := by show _ = _; rw [HR.out]; unfold pickStep; simp only; rw [hlt2, haa]; rfl
                      rw [haa] at hA0
                      have HA := Lib.hid hA0
                      clear hA0 hg hp hin hcc hpk hat K2 hpj hlt2 haa HR
                      go_wp2_with fail
                      refine wp_region_ext (by kernel_rfl) (by kernel_rfl) ?_
                      repeat (go_big_quiet_step ((first | (go_at_call 39; with_reducible exact qe (HC.out _)) | (go_at_call 41; with_reducible exact qe (HA.out _)))))
                      refine wpQuiet_nil ?_
                      intro _ hw'
                      obtain ⟨gx, hw'''⟩ := hw'
                      subst hw'''
                      clear hu' x0 x1 x2 x3 x4 x5 x6 x7 x8 x9 y0 y1 y2 y3 y4 y5 y6 y7 y8 y9
                      have b8 := below2 HB2.out (ext_below wr gx)
                      go_wp2_with fail
                      go_roundw
                      case rel => exact ⟨i + 1, by omega, by go_num, by rw [HR2.out]; rfl, b8⟩
                      case measure => simp [intOf]; omega

                    | false =>
                      have HR2 : Hid (pickL (rkLt l (ob : Int) s) (leftOf (rkIdx l (ob : Int) (i + 1)) O) = some j) := by show _ = _; rw [HR.out]; unfold pickStep; simp only; rw [hlt2, haa]; rfl
                      rw [haa] at hA0
                      have HA := Lib.hid hA0
                      clear hA0 hg hp hin hcc hpk hat K2 hpj hlt2 haa HR
                      go_wp2_with fail
                      refine wp_region_ext (by kernel_rfl) (by kernel_rfl) ?_
                      repeat (go_big_quiet_step ((first | (go_at_call 39; with_reducible exact qe (HC.out _)) | (go_at_call 41; with_reducible exact qe (HA.out _)))))
                      refine wpQuiet_nil ?_
                      intro _ hw'
                      obtain ⟨gx, hw'''⟩ := hw'
                      subst hw'''
                      clear hu' x0 x1 x2 x3 x4 x5 x6 x7 x8 x9 y0 y1 y2 y3 y4 y5 y6 y7 y8 y9
                      have b8 := below2 HB2.out (ext_below wr gx)
                      go_wp2_with fail
                      go_roundw
                      case rel => exact ⟨i + 1, by omega, by go_num, by rw [HR2.out]; rfl, b8⟩
                      case measure => simp [intOf]; omega

              · obtain rfl : i = l.length := by omega
                have hB2 := HB0.out.trans (HB2.out.mono HB0.out.size)
                have HB2' := Lib.hid hB2
                have HBU2 : Hid (Below U W0 wr) := HBU.out.trans (HB2.out.mono (by have := HBU.out.size; have := HZ.out; have := HUU.out; omega))
                have HUw := Lib.hid (HU.out.below HB2.out)
                clear hB2
                cases hpk : pickL (rkLt l (ob : Int) s) (leftOf (rkIdx l (ob : Int) l.length) O) with
                | none =>
                  have hat : atI none = -1 := rfl
                  have HLE := Lib.hid (pickL_nil hpk)
                  simp only [hat]
                  clear hpk hat
                  go_wp2_with fail
                  go_roundw
                  case rel => exact ⟨t + 1, T, O, by omega, by omega, by go_num, HOT.out, Nat.le_succ_of_le HTl.out, Or.inr HLE.out, HUw.out, HBU2.out, HS.out⟩
                  case measure => simp [intOf]; omega
                | some j =>
                  have hla : leftOf (leftOf (rkIdx l (ob : Int) l.length) O0) T = leftOf (rkIdx l (ob : Int) l.length) O := by rw [left_app, HOT.out]
                  obtain ⟨hj1, hj2, hj3⟩ := left_pick (idx := leftOf (rkIdx l (ob : Int) l.length) O0) (O := T) (wo_lt l (ob : Int) s) ((rkIdx_nodup l (ob : Int) l.length).filter _) (by rw [hla]; exact hpk) (by rw [hla]; exact HS.out)
                  have hjl := rkIdx_lt (left_mem.1 hj1).1
                  have hne : leftOf (rkIdx l (ob : Int) l.length) O ≠ [] := fun e => by rw [e] at hpk; cases hpk
                  have hTl : T.length = t := HTd.out.resolve_right hne
                  have hat : atI (some j) = (j : Int) := rfl
                  have hnj : ¬ ((j : Int) < 0) := by omega
                  have q3 : (0 : Int) ≤ (j : Int) := by omega
                  have q4 : (j : Int) < (l.length : Int) := by omega
                  have hcu := HUw.out.cell (usedV_get (O := O) hjl)
                  have hfu := HUw.out.frozen j
                  have hUl := HUw.out.lt
                  simp only [hat]
                  have HS3 : Hid (ssort (rkLt l (ob : Int) s) (leftOf (rkIdx l (ob : Int) l.length) O0) = (T ++ [j]) ++ ssort (rkLt l (ob : Int) s) (leftOf (rkIdx l (ob : Int) l.length) (O ++ [j]))) := by
                    show _ = _
                    rw [hj3, left_app, HOT.out, List.append_assoc O0 T [j]]
                  have HTL := Lib.hid hTl; have HJL := Lib.hid hjl
                  clear hpk hat hj1 hj2 hj3 hla hne hTl
                  go_upto_region 7 with fail
                  go_name_world W5 hW5
                  have hU5 : BlockIs W5 U (usedV l.length (O ++ [j])) 4 := by subst hW5; rw [← usedV_set HJL.out]; exact HUw.out.set j _
                  have hB5 : Below U W0 W5 := by subst hW5; exact HBU2.out.setCell (Nat.le_refl _) _
                  clear hW5 hcu hfu hUl
                  have HU5 := Lib.hid hU5; have HB5 := Lib.hid hB5
                  clear hU5 hB5
                  go_wp2_with fail
                  go_roundw
                  case rel => exact ⟨t + 1, T ++ [j], O ++ [j], by omega, by omega, by go_num, (show _ = _ by rw [HOT.out, List.append_assoc]), (by rw [List.length_append, List.length_singleton, HTL.out]; exact Nat.le_refl _), Or.inl (by rw [List.length_append, List.length_singleton, HTL.out]), HU5.out, HB5.out, HS3.out⟩
                  case measure => simp [intOf]; omega
          · have hc2z : ¬ ((t : Int) < (l.length : Int)) := by omega
            have HO9 := Lib.hid (HDone.out (Or.inr (by omega)))
            go_wp2_with (go_at_call 94; (with_reducible refine (HQ.out _).mono ?_); rintro e w6 ⟨rfl, b6⟩)
            clear g0 g1 g2 g3
            go_roundw
            case rel => exact ⟨cc0 + 1, ob + 1, (show _ = _ by rw [HOB.out]), (by have := HOB.out; omega), by go_num, (by rw [← HO9.out]; exact HU.out.below b6), HBU.out.trans (b6.mono (by have := HBU.out.size; have := HZ.out; have := HUU.out; omega))⟩
            case measure => simp [intOf]; omega
        · have HO9 := Lib.hid (HDone.out (Or.inl (by omega)))
          go_wp2_with (go_at_call 94; (with_reducible refine (HQ.out _).mono ?_); rintro e w6 ⟨rfl, b6⟩)
          clear g0 g1 g2 g3
          go_roundw
          case rel => exact ⟨cc0 + 1, ob + 1, (show _ = _ by rw [HOB.out]), (by have := HOB.out; omega), by go_num, (by rw [← HO9.out]; exact HU.out.below b6), HBU.out.trans (b6.mono (by have := HBU.out.size; have := HZ.out; have := HUU.out; omega))⟩
          case measure => simp [intOf]; omega
    · obtain rfl : cc0 = 4 := by have := HOB.out; omega
      have HF : Hid (Reads wr (.slice (some ⟨U, 0, none⟩) l.length l.length) l.length 1 (usedV l.length (svO l qu s 4))) := reads_used HUc.out hn
      have HB9 : Hid (Below w.heap.size w wr) := HB00.out.trans (HBc.out.mono (by have := HUU.out; omega))
      go_wp2_with fail
      go_ret
      exact ⟨_, rfl, HF.out, HB9.out⟩
theorem lfK_succ (m : Nat) (O : List Nat) (k : Nat) : leftOf (List.range (k + 1)) O = leftOf (List.range k) O ++ (if k ∈ O then [] else [k]) := by
  rw [List.range_succ, left_snoc]
set_option maxRecDepth 100000 in
set_option maxHeartbeats 16000000 in
theorem ref_left_any (v : Value) (l : List Pe) (hl : ∀ x ∈ l, x.fits) (qu : Qu) (s : Nat) (hs : s < 18446744073709551616) (w : World) (h : ReadsL peV 10 w v l) (hn : l.length ≤ 1000000) :
    Calls Try.prog 54 #[v, .agg #[.int .i64 qu.group, .int .i64 qu.ping, .int .i64 qu.work, .int .i64 qu.time], .int .u64 s] w fun e w' => ∃ r, e = .returned r ∧ Reads w' r (lfL l qu s 4).length 1 ((lfL l qu s 4).map natV) ∧ Below w.heap.size w w' := by
  have HS := Lib.hid (fun W (hW : Below w.heap.size w W) => ref_saved_any v l hl qu s hs W (ReadsL.below h hW) hn)
  obtain ⟨hm, p, c, rfl, h3⟩ := pes_open h
  clear h h3
  go_enter Try.func54, Try.ntmps54
  go_upto_region 4 with (go_at_call 52; (with_reducible refine (HS.out _ (by (repeat (first | with_reducible assumption | with_reducible exact Below.refl _ _ | with_reducible refine Below.setCell ?_ (by first | omega | (simp; done) | (simp; omega)) _ | with_reducible refine Below.alloc ?_ (by first | omega | (simp; done) | (simp; omega)) _ | with_reducible refine Below.drew ?_ | (with_reducible refine Below.trans ?_ (Below.mono (by with_reducible assumption) (by first | omega | (simp; done) | (simp; omega)))) | (refine Below.trans ?_ (Below.mono (by assumption) (by first | omega | (simp; done) | (simp; omega)))))))).mono ?_); rintro e w1 ⟨r1, rfl, o1, b1⟩)
  go_name_world W0 hW0
  have hO0 : W0.ownsRow w1.heap.size 3 1 (.slice (some ⟨w1.heap.size, 0, none⟩) 0 0) 0 [] := by subst hW0; exact World.ownsRow_made w1 #[] 0 (Nat.le_refl _) (Nat.zero_le _) rfl
  have b0 : Below w1.heap.size w1 W0 := by subst hW0; (repeat (first | with_reducible assumption | with_reducible exact Below.refl _ _ | with_reducible refine Below.setCell ?_ (by first | omega | (simp; done) | (simp; omega)) _ | with_reducible refine Below.alloc ?_ (by first | omega | (simp; done) | (simp; omega)) _ | with_reducible refine Below.drew ?_ | (with_reducible refine Below.trans ?_ (Below.mono (by with_reducible assumption) (by first | omega | (simp; done) | (simp; omega)))) | (refine Below.trans ?_ (Below.mono (by assumption) (by first | omega | (simp; done) | (simp; omega))))))
  have bw : Below w.heap.size w w1 := by (repeat (first | with_reducible assumption | with_reducible exact Below.refl _ _ | with_reducible refine Below.setCell ?_ (by first | omega | (simp; done) | (simp; omega)) _ | with_reducible refine Below.alloc ?_ (by first | omega | (simp; done) | (simp; omega)) _ | with_reducible refine Below.drew ?_ | (with_reducible refine Below.trans ?_ (Below.mono (by with_reducible assumption) (by first | omega | (simp; done) | (simp; omega)))) | (refine Below.trans ?_ (Below.mono (by assumption) (by first | omega | (simp; done) | (simp; omega))))))
  have HO0 := Lib.hid hO0; have HB0 := Lib.hid b0; have HO1 := Lib.hid o1; have HBW := Lib.hid bw
  clear hW0 hO0 b0 b1 bw
  go_loopw [8, 9] (fun o' k' wr => ∃ k : Nat, k ≤ l.length ∧ k' = .int .i64 k ∧ Hid (wr.ownsRow w1.heap.size 3 1 o' (leftOf (List.range k) (svO l qu s 4)).length ((leftOf (List.range k) (svO l qu s 4)).map natV)) ∧ Hid (Below w1.heap.size w1 wr)) (fun _ k' _ => l.length - (intOf k').toNat)
  case atStart => exact ⟨0, by omega, rfl, HO0.out, HB0.out⟩
  case round =>
    obtain ⟨k, hk, rfl, HO, HB⟩ := hrel
    by_cases hlt : k < l.length
    · obtain ⟨_, _, a1, c1, rfl, k1⟩ := HO1.out.open
      obtain ⟨bx, ox, rfl, hcx, hbx, hxx⟩ := k1 (by omega)
      have g1 : wr.cell? ⟨bx, ox + k, none⟩ = some (.bool (decide (k ∈ svO l qu s 4))) := keep HB.out hbx (hxx k _ (usedV_get hlt))
      have q1 : (0 : Int) ≤ (k : Int) := by omega
      have q2 : (k : Int) < (l.length : Int) := by omega
      have HD := Lib.hid (lfK_succ l.length (svO l qu s 4) k)
      have hdl : (leftOf (List.range k) (svO l qu s 4)).length ≤ k := Nat.le_trans (List.length_filter_le _ _) (by simp)
      clear hxx k1 o1
      by_cases hin : k ∈ svO l qu s 4
      · have HD2 : Hid (leftOf (List.range (k + 1)) (svO l qu s 4) = leftOf (List.range k) (svO l qu s 4)) := by show _ = _; rw [HD.out, if_pos hin, List.append_nil]
        rw [decide_eq_true hin] at g1
        clear hin
        go_wp2_with fail
        go_roundw
        case rel => exact ⟨k + 1, by omega, by go_num, by rw [HD2.out]; exact HO.out, HB.out⟩
        case measure => simp [intOf]; omega
      · have HD2 : Hid (leftOf (List.range (k + 1)) (svO l qu s 4) = leftOf (List.range k) (svO l qu s 4) ++ [k]) := by show _ = _; rw [HD.out, if_neg hin]
        rw [decide_eq_false hin] at g1
        clear hin
        go_wp2_with (at_builtin; refine list_app_reads_g intRow rfl _ _ rfl w1.heap.size _ (leftOf (List.range k) (svO l qu s 4)).length ((leftOf (List.range k) (svO l qu s 4)).map natV) rfl (HO.out.alloc _) _ 1 [natV k] rfl (reads_one (us := [natV k]) rfl (Nat.succ_pos 0)) (natV_one k) (by omega) (by omega) (by have := HB.out.size; simp; omega) ?_; intro v' w7 hO7 hg7)
        go_roundw
        case rel => exact ⟨k + 1, by omega, by go_num, (by rw [HD2.out]; have := hO7; simp only [List.length_append, List.length_singleton, List.map_append, List.map_cons, List.map_nil]; exact this), below_grown (HO.out.alloc _) ((HB.out).alloc (HB.out.size) _) (Nat.le_refl _) (by have := HB.out.size; simp; omega) hg7⟩
        case measure => simp [intOf]; omega
    · obtain rfl : k = l.length := by omega
      go_wp2_with fail
      go_ret
      exact ⟨_, rfl, owns_reads HO.out, below2 HBW.out HB.out⟩
set_option maxRecDepth 100000 in
set_option maxHeartbeats 16000000 in
theorem bools_same (v u : Value) (L : List Bool) (w : World) (hv : Reads w v L.length 1 (L.map Value.bool)) (hu : Reads w u L.length 1 (L.map Value.bool)) :
    Calls Try.prog 50 #[v, u] w fun e w' => e = .returned (.bool true) ∧ Below w.heap.size w w' := by
  obtain ⟨_, hm, p, c, rfl, h3⟩ := hv.open
  clear hv
  obtain ⟨_, hm1, p1, c1, rfl, k1⟩ := hu.open
  clear hu
  go_enter Try.func50, Try.ntmps50
  go_wp2_with fail
  go_loopw [5] (fun i' wr => ∃ k : Nat, k ≤ L.length ∧ i' = .int .i64 k ∧ Hid (Below w.heap.size w wr)) (fun i' _ => L.length - (intOf i').toNat)
  case atStart => exact ⟨0, by omega, rfl, Below.refl _ _⟩
  case round =>
    obtain ⟨k, hk, rfl, HB⟩ := hrel
    by_cases hlt : k < L.length
    · obtain ⟨x, hx⟩ : ∃ x, L[k]? = some x := ⟨_, List.getElem?_eq_getElem hlt⟩
      obtain ⟨b1, o1, rfl, hc1, hb1, hx1⟩ := h3 (by omega)
      obtain ⟨b2, o2, rfl, hc2, hb2, hx2⟩ := k1 (by omega)
      have f1 := fun g => (ext_cell wr g (p := ⟨b1, o1 + k, none⟩) (Nat.lt_of_lt_of_le hb1 HB.out.size)).trans (keep HB.out hb1 (hx1 k (.bool x) (by rw [List.getElem?_map, hx]; rfl)))
      have f2 := fun g => (ext_cell wr g (p := ⟨b2, o2 + k, none⟩) (Nat.lt_of_lt_of_le hb2 HB.out.size)).trans (keep HB.out hb2 (hx2 k (.bool x) (by rw [List.getElem?_map, hx]; rfl)))
      have q1 : (0 : Int) ≤ (k : Int) := by omega
      have q2 : (k : Int) < (L.length : Int) := by omega
      clear hx hx1 hx2 h3 k1
      go_wp2_with fail
      refine wp_region_ext (by kernel_rfl) (by kernel_rfl) ?_
      repeat (go_big_quiet_step (fail))
      refine wpQuiet_nil ?_
      intro _ hw'
      obtain ⟨gx, hw3⟩ := hw'
      subst hw3
      clear f1 f2
      go_wp2_with fail
      go_roundw
      case rel => exact ⟨k + 1, by omega, by go_num, HB.out.trans ((ext_below wr gx).mono HB.out.size)⟩
      case measure => simp [intOf]; omega
    · obtain rfl : k = L.length := by omega
      have q2 : ¬ ((L.length : Int) < (L.length : Int)) := by omega
      go_wp2_with fail
      go_ret
      exact ⟨rfl, HB.out⟩
end Go.Proofs.Ytdjmejdfcceknaa
/- The laws of shield. No condition. -/
namespace Go.Proofs.Ytdjmejdfcceknaa
open Go.RowKit
set_option linter.unusedSimpArgs false
set_option linter.unusedVariables false

theorem at19_any (port ping : Int) (w : World) : Calls Try.prog 92 #[.int .i64 port, .int .i64 ping] w fun e w' => e = .returned (.agg #[.bool ((⟨⟨⟨false, 0, 1⟩, port⟩, true, 0, 0, 0, ping, 0⟩ : Pe)).en.ad.v6, .int .u64 ((⟨⟨⟨false, 0, 1⟩, port⟩, true, 0, 0, 0, ping, 0⟩ : Pe)).en.ad.hi, .int .u64 ((⟨⟨⟨false, 0, 1⟩, port⟩, true, 0, 0, 0, ping, 0⟩ : Pe)).en.ad.lo, .int .i64 ((⟨⟨⟨false, 0, 1⟩, port⟩, true, 0, 0, 0, ping, 0⟩ : Pe)).en.port, .bool ((⟨⟨⟨false, 0, 1⟩, port⟩, true, 0, 0, 0, ping, 0⟩ : Pe)).came, .int .i64 ((⟨⟨⟨false, 0, 1⟩, port⟩, true, 0, 0, 0, ping, 0⟩ : Pe)).since, .int .i64 ((⟨⟨⟨false, 0, 1⟩, port⟩, true, 0, 0, 0, ping, 0⟩ : Pe)).pts, .int .i64 ((⟨⟨⟨false, 0, 1⟩, port⟩, true, 0, 0, 0, ping, 0⟩ : Pe)).at_, .int .i64 ((⟨⟨⟨false, 0, 1⟩, port⟩, true, 0, 0, 0, ping, 0⟩ : Pe)).ping, .int .i64 ((⟨⟨⟨false, 0, 1⟩, port⟩, true, 0, 0, 0, ping, 0⟩ : Pe)).work]) ∧ Below w.heap.size w w' := by
  go_enter Try.func92, Try.ntmps92
  go_wp2_with fail
  refine bodyPost_ret (v := .agg #[.bool ((⟨⟨⟨false, 0, 1⟩, port⟩, true, 0, 0, 0, ping, 0⟩ : Pe)).en.ad.v6, .int .u64 ((⟨⟨⟨false, 0, 1⟩, port⟩, true, 0, 0, 0, ping, 0⟩ : Pe)).en.ad.hi, .int .u64 ((⟨⟨⟨false, 0, 1⟩, port⟩, true, 0, 0, 0, ping, 0⟩ : Pe)).en.ad.lo, .int .i64 ((⟨⟨⟨false, 0, 1⟩, port⟩, true, 0, 0, 0, ping, 0⟩ : Pe)).en.port, .bool ((⟨⟨⟨false, 0, 1⟩, port⟩, true, 0, 0, 0, ping, 0⟩ : Pe)).came, .int .i64 ((⟨⟨⟨false, 0, 1⟩, port⟩, true, 0, 0, 0, ping, 0⟩ : Pe)).since, .int .i64 ((⟨⟨⟨false, 0, 1⟩, port⟩, true, 0, 0, 0, ping, 0⟩ : Pe)).pts, .int .i64 ((⟨⟨⟨false, 0, 1⟩, port⟩, true, 0, 0, 0, ping, 0⟩ : Pe)).at_, .int .i64 ((⟨⟨⟨false, 0, 1⟩, port⟩, true, 0, 0, 0, ping, 0⟩ : Pe)).ping, .int .i64 ((⟨⟨⟨false, 0, 1⟩, port⟩, true, 0, 0, 0, ping, 0⟩ : Pe)).work]) (by simp [results, Try.results92, go_sem, *]) rfl ⟨rfl, ?_⟩
  (repeat (first | with_reducible assumption | with_reducible exact Below.refl _ _ | with_reducible refine Below.setCell ?_ (by first | omega | (simp; done) | (simp; omega)) _ | with_reducible refine Below.alloc ?_ (by first | omega | (simp; done) | (simp; omega)) _ | with_reducible refine Below.drew ?_ | (with_reducible refine Below.trans ?_ (Below.mono (by with_reducible assumption) (by first | omega | (simp; done) | (simp; omega)))) | (refine Below.trans ?_ (Below.mono (by assumption) (by first | omega | (simp; done) | (simp; omega))))))
def a19 : List Pe := [⟨⟨⟨false, 0, 1⟩, 1⟩, true, 0, 0, 0, 5, 0⟩, ⟨⟨⟨false, 0, 1⟩, 2⟩, true, 0, 0, 0, 3, 0⟩]
theorem a19_fits : ∀ x ∈ a19, x.fits := by
  intro x hx
  unfold a19 at hx
  simp only [List.mem_cons, List.not_mem_nil, or_false] at hx
  rcases hx with rfl | rfl <;> (unfold Pe.fits Ad.fits; decide)
def q19 : Qu := ⟨0, 1, 0, 0⟩
theorem q19_fits : q19.fits := by unfold Qu.fits q19; decide
theorem a19_saved : usedV 2 (svO a19 q19 7 4) = [.bool false, .bool true] := by
  have : svO a19 q19 7 4 = [1] := by decide +kernel
  rw [this]; rfl
theorem a19_left : lfL a19 q19 7 4 = [0] := by decide +kernel
theorem a19_in : shIn a19 1 q19 7 = true := by decide +kernel
set_option maxRecDepth 100000 in
set_option maxHeartbeats 8000000 in
theorem awake19_any (w : World) : Calls Try.prog 47 #[] w fun e w' => e = .returned (.bool true) ∧ Below w.heap.size w w' := by
  have A1 := Lib.hid (fun w => at19_any 1 5 w)
  have A2 := Lib.hid (fun w => at19_any 2 3 w)
  go_enter Try.func47, Try.ntmps47
  go_upto_region 2 with (first | (go_at_call 92; (with_reducible refine (A1.out _).mono ?_); rintro e w1 ⟨rfl, b1⟩) | (go_at_call 92; (with_reducible refine (A2.out _).mono ?_); rintro e w2 ⟨rfl, b2⟩))
  go_name_world W4 hW4
  have hB : BlockIs W4 w2.heap.size (a19.flatMap peV) 34 := by subst hW4; exact BlockIs.new w2 (a19.flatMap peV) _
  have b12 := below2 b1 b2
  have b4 : Below w.heap.size w W4 := by subst hW4; exact b12.alloc b12.size _
  clear hW4 b1 b2 b12
  have hR : ReadsL peV 10 W4 (.slice (some ⟨w2.heap.size, 0, none⟩) 2 2) a19 := reads_blk hB (by decide) (by decide) (by decide)
  have HS := Lib.hid (fun W (hW : Below W4.heap.size W4 W) => sh_saved_any _ a19 a19_fits q19 q19_fits 7 (by omega) W (ReadsL.below hR hW) (by decide))
  have HL := Lib.hid (fun W (hW : Below W4.heap.size W4 W) => sh_left_any _ a19 a19_fits q19 q19_fits 7 (by omega) W (ReadsL.below hR hW) (by decide))
  have HI := Lib.hid (fun W (hW : Below W4.heap.size W4 W) => a19_in ▸ sh_inside_any _ a19 a19_fits 1 q19 7 (by omega) W (ReadsL.below hR hW) (by decide))
  clear hR hB A1 A2
  go_upto_region 3 with (go_at_call 51; refine (HS.out _ (by (repeat (first | with_reducible assumption | with_reducible exact Below.refl _ _ | with_reducible refine Below.setCell ?_ (by first | omega | (simp; done) | (simp; omega)) _ | with_reducible refine Below.alloc ?_ (by first | omega | (simp; done) | (simp; omega)) _ | with_reducible refine Below.drew ?_ | (with_reducible refine Below.trans ?_ (Below.mono (by with_reducible assumption) (by first | omega | (simp; done) | (simp; omega)))) | (refine Below.trans ?_ (Below.mono (by assumption) (by first | omega | (simp; done) | (simp; omega)))))))).mono ?_; rintro e w5 ⟨r5, rfl, o5, b5⟩)
  rw [show usedV a19.length (svO a19 q19 7 4) = [.bool false, .bool true] from a19_saved] at o5
  go_upto_region 4 with (go_at_call 53; refine (HL.out _ (by (repeat (first | with_reducible assumption | with_reducible exact Below.refl _ _ | with_reducible refine Below.setCell ?_ (by first | omega | (simp; done) | (simp; omega)) _ | with_reducible refine Below.alloc ?_ (by first | omega | (simp; done) | (simp; omega)) _ | with_reducible refine Below.drew ?_ | (with_reducible refine Below.trans ?_ (Below.mono (by with_reducible assumption) (by first | omega | (simp; done) | (simp; omega)))) | (refine Below.trans ?_ (Below.mono (by assumption) (by first | omega | (simp; done) | (simp; omega)))))))).mono ?_; rintro e w6 ⟨r6, rfl, o6, b6⟩)
  rw [a19_left] at o6
  obtain ⟨_, _, a, c, rfl, ho⟩ := (Reads.below o5 b6).open
  obtain ⟨b, o, rfl, hc, hlt, hx⟩ := ho (by decide)
  have g1 : w6.cell? ⟨b, o, none⟩ = some (.bool false) := hx 0 _ rfl
  have g2 : w6.cell? ⟨b, o + 1, none⟩ = some (.bool true) := hx 1 _ rfl
  obtain ⟨_, _, a2, c2, rfl, ho2⟩ := (owns_reads o6).open
  obtain ⟨b', o', rfl, hc', hlt', hx'⟩ := ho2 (by decide)
  have g3 : w6.cell? ⟨b', o', none⟩ = some (.int .i64 0) := hx' 0 (natV 0) rfl
  have e1 : ((a19.length : Nat) : Int) = 2 := rfl
  have e2 : ((([0] : List Nat).length : Nat) : Int) = 1 := rfl
  have e3 : a19.length = 2 := rfl
  have e4 : ([0] : List Nat).length = 1 := rfl
  rw [e3] at hc
  have hc2 : 1 ≤ c2 := hc'
  simp only [e3, e4]
  have bb : Below W4.heap.size W4 w6 := below2 b5 b6
  have bw := below2 b4 bb
  clear ho hx ho2 hx' o5 o6 b5 b6 HS HL e1 e2 e3 e4
  go_wp2_with (go_at_call 48; refine (HI.out _ (by (repeat (first | with_reducible assumption | with_reducible exact Below.refl _ _ | with_reducible refine Below.setCell ?_ (by first | omega | (simp; done) | (simp; omega)) _ | with_reducible refine Below.alloc ?_ (by first | omega | (simp; done) | (simp; omega)) _ | with_reducible refine Below.drew ?_ | (with_reducible refine Below.trans ?_ (Below.mono (by with_reducible assumption) (by first | omega | (simp; done) | (simp; omega)))) | (refine Below.trans ?_ (Below.mono (by assumption) (by first | omega | (simp; done) | (simp; omega)))))))).mono ?_; rintro e w8 ⟨rfl, b8⟩)
  go_ret
  exact ⟨rfl, below2 bw b8⟩
theorem few_any (n : Int) (w : World) : Calls Try.prog 55 #[.int .i64 n] w fun e w' => e = .returned (.int .i64 (min (max n 0) 64)) ∧ w = w' := by
  go_enter Try.func55, Try.ntmps55
  go_wp2_with fail
  go_ret
  exact ⟨rfl, rfl⟩
theorem used_bools (n : Nat) (O : List Nat) : usedV n O = ((List.range n).map fun i => decide (i ∈ O)).map Value.bool := by
  unfold usedV; rw [List.map_map]; rfl
set_option maxRecDepth 100000 in
set_option maxHeartbeats 16000000 in
theorem shieldTells_any (v : Value) (l : List Pe) (q : Qu) (s : Nat) (w : World) (h : ReadsL peV 10 w v l) (hl : ∀ x ∈ l, x.fits) (hq : q.fits) (hs : s < 18446744073709551616) :
    Calls Try.prog 9 #[v, .agg #[.int .i64 q.group, .int .i64 q.ping, .int .i64 q.work, .int .i64 q.time], .int .u64 s] w fun e w' => e = .returned (.bool true) ∧ Below w.heap.size w w' := by
  have h0 := Lib.hid h
  obtain ⟨hm, p, c, rfl, h3⟩ := pes_open h
  clear h h3
  have HA := Lib.hid (fun w => awake19_any w)
  rcases Int.lt_or_le 30 (l.length : Int) with hlen | hlen
  · go_enter Try.func9, Try.ntmps9
    go_wp2_with (go_at_call 47; (with_reducible refine (HA.out _).mono ?_); rintro e w2 ⟨rfl, b2⟩; obtain ⟨c2, f2⟩ := bcell b2; have z2 := b2.size; (try simp at z2); clear c2 f2)
    go_ret
    refine ⟨rfl, ?_⟩
    (repeat (first | with_reducible assumption | with_reducible exact Below.refl _ _ | with_reducible refine Below.setCell ?_ (by first | omega | (simp; done) | (simp; omega)) _ | with_reducible refine Below.alloc ?_ (by first | omega | (simp; done) | (simp; omega)) _ | with_reducible refine Below.drew ?_ | (with_reducible refine Below.trans ?_ (Below.mono (by with_reducible assumption) (by first | omega | (simp; done) | (simp; omega)))) | (refine Below.trans ?_ (Below.mono (by assumption) (by first | omega | (simp; done) | (simp; omega))))))
  · have hn : l.length ≤ 1000000 := by omega
    go_enter Try.func9, Try.ntmps9
    go_upto_region 4 with fail
    go_name_world WW0 hWW0
    have e00 : WW0.cell? ⟨w.heap.size, 0, none⟩ = some (.int .i64 q.group) := by subst hWW0; (first | (simp (disch := first | omega | (simp; omega)) [World.cell?_alloc_past, World.frozen?_alloc_past, *]; done) | (simp (disch := first | omega | (simp; omega)) [World.cell?_setCell_far, World.cell?_alloc_past, *]; done) | (simp (disch := first | omega | (simp; omega)) [World.cell?_alloc_past, World.frozen?_alloc_past, *]; rfl) | (simp (disch := first | omega | (simp; omega)) [World.cell?_setCell_far, World.cell?_alloc_past, *]; rfl) | (simp [go_sem, *]; done) | (simp (disch := first | omega | (simp; omega) | (simp [go_sem, *]; done)) [go_sem, World.cell?_setCell_far, World.cell?_alloc_past, World.frozen?_alloc_past, *]; done))
    have e01 : WW0.cell? ⟨w.heap.size, 1, none⟩ = some (.int .i64 q.ping) := by subst hWW0; (first | (simp (disch := first | omega | (simp; omega)) [World.cell?_alloc_past, World.frozen?_alloc_past, *]; done) | (simp (disch := first | omega | (simp; omega)) [World.cell?_setCell_far, World.cell?_alloc_past, *]; done) | (simp (disch := first | omega | (simp; omega)) [World.cell?_alloc_past, World.frozen?_alloc_past, *]; rfl) | (simp (disch := first | omega | (simp; omega)) [World.cell?_setCell_far, World.cell?_alloc_past, *]; rfl) | (simp [go_sem, *]; done) | (simp (disch := first | omega | (simp; omega) | (simp [go_sem, *]; done)) [go_sem, World.cell?_setCell_far, World.cell?_alloc_past, World.frozen?_alloc_past, *]; done))
    have e02 : WW0.cell? ⟨w.heap.size, 2, none⟩ = some (.int .i64 q.work) := by subst hWW0; (first | (simp (disch := first | omega | (simp; omega)) [World.cell?_alloc_past, World.frozen?_alloc_past, *]; done) | (simp (disch := first | omega | (simp; omega)) [World.cell?_setCell_far, World.cell?_alloc_past, *]; done) | (simp (disch := first | omega | (simp; omega)) [World.cell?_alloc_past, World.frozen?_alloc_past, *]; rfl) | (simp (disch := first | omega | (simp; omega)) [World.cell?_setCell_far, World.cell?_alloc_past, *]; rfl) | (simp [go_sem, *]; done) | (simp (disch := first | omega | (simp; omega) | (simp [go_sem, *]; done)) [go_sem, World.cell?_setCell_far, World.cell?_alloc_past, World.frozen?_alloc_past, *]; done))
    have e03 : WW0.cell? ⟨w.heap.size, 3, none⟩ = some (.int .i64 q.time) := by subst hWW0; (first | (simp (disch := first | omega | (simp; omega)) [World.cell?_alloc_past, World.frozen?_alloc_past, *]; done) | (simp (disch := first | omega | (simp; omega)) [World.cell?_setCell_far, World.cell?_alloc_past, *]; done) | (simp (disch := first | omega | (simp; omega)) [World.cell?_alloc_past, World.frozen?_alloc_past, *]; rfl) | (simp (disch := first | omega | (simp; omega)) [World.cell?_setCell_far, World.cell?_alloc_past, *]; rfl) | (simp [go_sem, *]; done) | (simp (disch := first | omega | (simp; omega) | (simp [go_sem, *]; done)) [go_sem, World.cell?_setCell_far, World.cell?_alloc_past, World.frozen?_alloc_past, *]; done))
    have bw0 : Below w.heap.size w WW0 := by subst hWW0; (repeat (first | assumption | exact Below.refl _ _ | refine Below.setCell ?_ (by first | omega | (simp; done) | (simp; omega)) _ | refine Below.alloc ?_ (by first | omega | (simp; done) | (simp; omega)) _ | refine Below.drew ?_ | (refine Below.trans ?_ (Below.mono (by assumption) (by first | omega | (simp; done) | (simp; omega))))))
    have zw0 : _ := bw0.size
    have lW00 : w.heap.size < WW0.heap.size := by subst hWW0; first | omega | (simp; done) | (simp; omega)
    clear hWW0
    have HB00 := Lib.hid bw0
    go_loopw [7] (fun i' wr => ∃ k : Nat, k ≤ l.length ∧ i' = .int .i64 k ∧ Hid (Below WW0.heap.size WW0 wr)) (fun i' _ => l.length - (intOf i').toNat)
    case atStart => exact ⟨0, by omega, rfl, Below.refl _ _⟩
    case round =>
      obtain ⟨k, hk, rfl, HB⟩ := hrel
      have hwr := HB.out.size
      have e0 := keep HB.out lW00 e00
      have e1 := keep HB.out lW00 e01
      have e2 := keep HB.out lW00 e02
      have e3 := keep HB.out lW00 e03
      have hlw : w.heap.size < wr.heap.size := by omega
      have HBW := Lib.hid (bw0.trans (HB.out.mono bw0.size))
      by_cases hlt : k < l.length
      · have f0 := fun y => (ext_cell wr y (p := ⟨w.heap.size, 0, none⟩) hlw).trans e0
        have f1 := fun y => (ext_cell wr y (p := ⟨w.heap.size, 1, none⟩) hlw).trans e1
        have f2 := fun y => (ext_cell wr y (p := ⟨w.heap.size, 2, none⟩) hlw).trans e2
        have f3 := fun y => (ext_cell wr y (p := ⟨w.heap.size, 3, none⟩) hlw).trans e3
        have q1 : (0 : Int) ≤ (k : Int) := by omega
        have q2 : (k : Int) < (l.length : Int) := by omega
        have hi := fun y => sh_inside_any _ l hl k q s hs (ext wr y) (ReadsL.below h0.out (below2 HBW.out (ext_below wr y))) hn
        have hi2 := fun y => ref_inside_any _ l hl k q s hs (ext wr y) (ReadsL.below h0.out (below2 HBW.out (ext_below wr y))) hn
        generalize shIn l k q s = cc at hi hi2
        have HI := Lib.hid hi; have HI2 := Lib.hid hi2
        have hcc : (cc == cc) = true := by simp
        clear hi hi2 e0 e1 e2 e3
        go_wp2_with fail
        refine wp_region_ext (by kernel_rfl) (by kernel_rfl) ?_
        repeat (go_big_quiet_step ((first | (go_at_call 48; with_reducible exact qe (HI.out _)) | (go_at_call 49; with_reducible exact qe (HI2.out _)))))
        refine wpQuiet_nil ?_
        intro _ hw'
        obtain ⟨gx, hw3⟩ := hw'
        subst hw3
        clear f0 f1 f2 f3
        go_wp2_with fail
        go_roundw
        case rel => exact ⟨k + 1, by omega, by go_num, HB.out.trans ((ext_below wr gx).mono HB.out.size)⟩
        case measure => simp [intOf]; omega
      · obtain rfl : k = l.length := by omega
        have hRr : ReadsL peV 10 wr (.slice p l.length c) l := ReadsL.below h0.out HBW.out
        have HS := Lib.hid (fun w' (b : Below wr.heap.size wr w') => sh_saved_any _ l hl q hq s hs w' (ReadsL.below hRr b) hn)
        have HS2 := Lib.hid (fun w' (b : Below wr.heap.size wr w') => ref_saved_any _ l hl q s hs w' (ReadsL.below hRr b) hn)
        have HL := Lib.hid (fun w' (b : Below wr.heap.size wr w') => sh_left_any _ l hl q hq s hs w' (ReadsL.below hRr b) hn)
        have HL2 := Lib.hid (fun w' (b : Below wr.heap.size wr w') => ref_left_any _ l hl q s hs w' (ReadsL.below hRr b) hn)
        have HI := Lib.hid (fun w' (b : Below wr.heap.size wr w') => (shIn_out (l := l) (q := q) (s := s) (Or.inl (by omega)) : shIn l (-1) q s = false) ▸ sh_inside_any _ l hl (-1) q s hs w' (ReadsL.below hRr b) hn)
        have HI2 := Lib.hid (fun w' (b : Below wr.heap.size wr w') => (shIn_out (l := l) (q := q) (s := s) (Or.inr (by omega)) : shIn l (l.length : Int) q s = false) ▸ sh_inside_any _ l hl (l.length : Int) q s hs w' (ReadsL.below hRr b) hn)
        have HU : Hid (usedV l.length (svO l q s 4) = ((List.range l.length).map fun i => decide (i ∈ svO l q s 4)).map Value.bool ∧ ((List.range l.length).map fun i => decide (i ∈ svO l q s 4)).length = l.length) := ⟨used_bools _ _, by simp⟩
        generalize usedV l.length (svO l q s 4) = F at *
        generalize ((List.range l.length).map fun i => decide (i ∈ svO l q s 4)) = FB at *
        generalize lfL l q s 4 = G at *
        clear hRr e00 e01 e02 e03
        go_wp2_with fail
        go_region_held3 (fun w' => w'.cell? ⟨w.heap.size, 0, none⟩ = some (.int .i64 q.group) ∧ w'.cell? ⟨w.heap.size, 1, none⟩ = some (.int .i64 q.ping) ∧ w'.cell? ⟨w.heap.size, 2, none⟩ = some (.int .i64 q.work) ∧ w'.cell? ⟨w.heap.size, 3, none⟩ = some (.int .i64 q.time)) (first | go_keep | (simp (disch := omega) [*])) (first | (go_at_call 51; (with_reducible refine (HS.out _ (by (repeat (first | with_reducible assumption | with_reducible exact Below.refl _ _ | with_reducible refine Below.setCell ?_ (by first | omega | (simp; done) | (simp; omega)) _ | with_reducible refine Below.alloc ?_ (by first | omega | (simp; done) | (simp; omega)) _ | with_reducible refine Below.drew ?_ | (with_reducible refine Below.trans ?_ (Below.mono (by with_reducible assumption) (by first | omega | (simp; done) | (simp; omega)))) | (refine Below.trans ?_ (Below.mono (by assumption) (by first | omega | (simp; done) | (simp; omega)))))))).mono ?_); rintro e w1 ⟨r1, rfl, o1, b1⟩; have z1 := b1.size; (try simp at z1); have d1 := fun o => (bcell b1).1 (w.heap.size) o (by first | omega | (simp; done) | (simp; omega))) | (go_at_call 52; (with_reducible refine (HS2.out _ (by (repeat (first | with_reducible assumption | with_reducible exact Below.refl _ _ | with_reducible refine Below.setCell ?_ (by first | omega | (simp; done) | (simp; omega)) _ | with_reducible refine Below.alloc ?_ (by first | omega | (simp; done) | (simp; omega)) _ | with_reducible refine Below.drew ?_ | (with_reducible refine Below.trans ?_ (Below.mono (by with_reducible assumption) (by first | omega | (simp; done) | (simp; omega)))) | (refine Below.trans ?_ (Below.mono (by assumption) (by first | omega | (simp; done) | (simp; omega)))))))).mono ?_); rintro e w2 ⟨r2, rfl, o2, b2⟩; have z2 := b2.size; (try simp at z2); have d2 := fun o => (bcell b2).1 (w.heap.size) o (by first | omega | (simp; done) | (simp; omega))) | (go_at_call 50; refine (bools_same r1 r2 FB _ (by rw [HU.out.2, ← HU.out.1]; exact Reads.below o1 (by (repeat (first | with_reducible assumption | with_reducible exact Below.refl _ _ | with_reducible refine Below.setCell ?_ (by first | omega | (simp; done) | (simp; omega)) _ | with_reducible refine Below.alloc ?_ (by first | omega | (simp; done) | (simp; omega)) _ | with_reducible refine Below.drew ?_ | (with_reducible refine Below.trans ?_ (Below.mono (by with_reducible assumption) (by first | omega | (simp; done) | (simp; omega)))) | (refine Below.trans ?_ (Below.mono (by assumption) (by first | omega | (simp; done) | (simp; omega)))))))) (by rw [HU.out.2, ← HU.out.1]; exact Reads.below o2 (by (repeat (first | with_reducible assumption | with_reducible exact Below.refl _ _ | with_reducible refine Below.setCell ?_ (by first | omega | (simp; done) | (simp; omega)) _ | with_reducible refine Below.alloc ?_ (by first | omega | (simp; done) | (simp; omega)) _ | with_reducible refine Below.drew ?_ | (with_reducible refine Below.trans ?_ (Below.mono (by with_reducible assumption) (by first | omega | (simp; done) | (simp; omega)))) | (refine Below.trans ?_ (Below.mono (by assumption) (by first | omega | (simp; done) | (simp; omega))))))))).mono ?_; rintro e w3 ⟨rfl, b3⟩; have z3 := b3.size; (try simp at z3); have d3 := fun o => (bcell b3).1 (w.heap.size) o (by first | omega | (simp; done) | (simp; omega))) | (go_at_call 53; (with_reducible refine (HL.out _ (by (repeat (first | with_reducible assumption | with_reducible exact Below.refl _ _ | with_reducible refine Below.setCell ?_ (by first | omega | (simp; done) | (simp; omega)) _ | with_reducible refine Below.alloc ?_ (by first | omega | (simp; done) | (simp; omega)) _ | with_reducible refine Below.drew ?_ | (with_reducible refine Below.trans ?_ (Below.mono (by with_reducible assumption) (by first | omega | (simp; done) | (simp; omega)))) | (refine Below.trans ?_ (Below.mono (by assumption) (by first | omega | (simp; done) | (simp; omega)))))))).mono ?_); rintro e w4 ⟨r4, rfl, o4, b4⟩; have z4 := b4.size; (try simp at z4); have d4 := fun o => (bcell b4).1 (w.heap.size) o (by first | omega | (simp; done) | (simp; omega))) | (go_at_call 54; (with_reducible refine (HL2.out _ (by (repeat (first | with_reducible assumption | with_reducible exact Below.refl _ _ | with_reducible refine Below.setCell ?_ (by first | omega | (simp; done) | (simp; omega)) _ | with_reducible refine Below.alloc ?_ (by first | omega | (simp; done) | (simp; omega)) _ | with_reducible refine Below.drew ?_ | (with_reducible refine Below.trans ?_ (Below.mono (by with_reducible assumption) (by first | omega | (simp; done) | (simp; omega)))) | (refine Below.trans ?_ (Below.mono (by assumption) (by first | omega | (simp; done) | (simp; omega)))))))).mono ?_); rintro e w5 ⟨r5, rfl, o5, b5⟩; have z5 := b5.size; (try simp at z5); have d5 := fun o => (bcell b5).1 (w.heap.size) o (by first | omega | (simp; done) | (simp; omega))) | (go_at_call 42; refine (ints_same r4 r5 G _ (Reads.below (owns_reads o4) (by (repeat (first | with_reducible assumption | with_reducible exact Below.refl _ _ | with_reducible refine Below.setCell ?_ (by first | omega | (simp; done) | (simp; omega)) _ | with_reducible refine Below.alloc ?_ (by first | omega | (simp; done) | (simp; omega)) _ | with_reducible refine Below.drew ?_ | (with_reducible refine Below.trans ?_ (Below.mono (by with_reducible assumption) (by first | omega | (simp; done) | (simp; omega)))) | (refine Below.trans ?_ (Below.mono (by assumption) (by first | omega | (simp; done) | (simp; omega)))))))) (Reads.below o5 (by (repeat (first | with_reducible assumption | with_reducible exact Below.refl _ _ | with_reducible refine Below.setCell ?_ (by first | omega | (simp; done) | (simp; omega)) _ | with_reducible refine Below.alloc ?_ (by first | omega | (simp; done) | (simp; omega)) _ | with_reducible refine Below.drew ?_ | (with_reducible refine Below.trans ?_ (Below.mono (by with_reducible assumption) (by first | omega | (simp; done) | (simp; omega)))) | (refine Below.trans ?_ (Below.mono (by assumption) (by first | omega | (simp; done) | (simp; omega))))))))).mono ?_; rintro e w6 ⟨rfl, b6⟩; have z6 := b6.size; (try simp at z6); have d6 := fun o => (bcell b6).1 (w.heap.size) o (by first | omega | (simp; done) | (simp; omega))) | (go_at_call 48; (with_reducible refine (HI.out _ (by (repeat (first | with_reducible assumption | with_reducible exact Below.refl _ _ | with_reducible refine Below.setCell ?_ (by first | omega | (simp; done) | (simp; omega)) _ | with_reducible refine Below.alloc ?_ (by first | omega | (simp; done) | (simp; omega)) _ | with_reducible refine Below.drew ?_ | (with_reducible refine Below.trans ?_ (Below.mono (by with_reducible assumption) (by first | omega | (simp; done) | (simp; omega)))) | (refine Below.trans ?_ (Below.mono (by assumption) (by first | omega | (simp; done) | (simp; omega)))))))).mono ?_); rintro e w7 ⟨rfl, b7⟩; have z7 := b7.size; (try simp at z7); have d7 := fun o => (bcell b7).1 (w.heap.size) o (by first | omega | (simp; done) | (simp; omega))) | (go_at_call 48; (with_reducible refine (HI2.out _ (by (repeat (first | with_reducible assumption | with_reducible exact Below.refl _ _ | with_reducible refine Below.setCell ?_ (by first | omega | (simp; done) | (simp; omega)) _ | with_reducible refine Below.alloc ?_ (by first | omega | (simp; done) | (simp; omega)) _ | with_reducible refine Below.drew ?_ | (with_reducible refine Below.trans ?_ (Below.mono (by with_reducible assumption) (by first | omega | (simp; done) | (simp; omega)))) | (refine Below.trans ?_ (Below.mono (by assumption) (by first | omega | (simp; done) | (simp; omega)))))))).mono ?_); rintro e w8 ⟨rfl, b8⟩; have z8 := b8.size; (try simp at z8); have d8 := fun o => (bcell b8).1 (w.heap.size) o (by first | omega | (simp; done) | (simp; omega))) | (go_at_call 47; (with_reducible refine (HA.out _).mono ?_); rintro e w9 ⟨rfl, b9⟩; have z9 := b9.size; (try simp at z9); have d9 := fun o => (bcell b9).1 (w.heap.size) o (by first | omega | (simp; done) | (simp; omega))))
        all_goals
          go_wp2_with fail
          go_ret
          refine ⟨rfl, ?_⟩
          refine Below.trans HBW.out (Below.mono (B := wr.heap.size) ?_ HBW.out.size)
          (repeat (first | with_reducible assumption | with_reducible exact Below.refl _ _ | with_reducible refine Below.setCell ?_ (by first | omega | (simp; done) | (simp; omega)) _ | with_reducible refine Below.alloc ?_ (by first | omega | (simp; done) | (simp; omega)) _ | with_reducible refine Below.drew ?_ | (with_reducible refine Below.trans ?_ (Below.mono (by with_reducible assumption) (by first | omega | (simp; done) | (simp; omega)))) | (refine Below.trans ?_ (Below.mono (by assumption) (by first | omega | (simp; done) | (simp; omega))))))
end Go.Proofs.Ytdjmejdfcceknaa
/- Whoever is inside a quota is protected: plain. Conditions: ends unlike. -/
namespace Go.Proofs.Ytdjmejdfcceknaa
open Go.RowKit

theorem inB_saved {l : List Pe} {q : Qu} {s i b : Nat} (hU : Unlike l) (hi : i < l.length) (h : inB l q s i (b + 1 : Nat) = true) : i ∈ svO l q s (b + 1) := by
  unfold inB at h
  have hm : i ∈ rkFirst l (b + 1 : Nat) (quN q (b + 1 : Nat)) s := by
    refine (first_mem l _ _ s i hU hi).2 ?_
    have e : rkRank l (i : Int) (b + 1 : Nat) s = ((rkN l (rkGet l i) (b + 1 : Nat) s l.length : Nat) : Int) := by
      unfold rkRank
      rw [if_neg (by omega), show ((i : Int)).toNat = i from by omega]; rfl
    rwa [e] at h
  have hc : rkCounts (rkGet l i) (b + 1 : Nat) = true := by
    rw [Bool.and_eq_true] at h; exact h.1
  have hx : i ∈ rkIdx l (b + 1 : Nat) l.length := List.mem_filter.2 ⟨List.mem_range.2 hi, hc⟩
  exact svStep_in (wo_lt l _ s) (idx_total l _ s hU) hi hc ((first_iff (wo_lt l _ s) (idx_total l _ s hU) _ hx).1 hm)
theorem svO_mono {l : List Pe} {q : Qu} {s i : Nat} : ∀ {a b : Nat}, a ≤ b → i ∈ svO l q s a → i ∈ svO l q s b
  | a, 0, h, hm => by obtain rfl : a = 0 := by omega
                      exact hm
  | a, b + 1, h, hm => by
    rcases Nat.lt_or_ge b a with h1 | h1
    · obtain rfl : a = b + 1 := by omega
      exact hm
    · exact svStep_sub (svO_mono h1 hm)
theorem inside_saved {l : List Pe} {q : Qu} {s i : Nat} (hU : Unlike l) (hi : i < l.length) (h : shIn l i q s = true) : i ∈ svO l q s 4 := by
  rw [shIn_at hi] at h
  have key : ∀ b : Nat, b + 1 ≤ 4 → inB l q s i (b + 1 : Nat) = true → i ∈ svO l q s 4 := fun b hb hin => svO_mono hb (inB_saved hU hi hin)
  cases h1 : inB l q s i 1 with
  | true => exact key 0 (by omega) h1
  | false =>
    cases h2 : inB l q s i 2 with
    | true => exact key 1 (by omega) h2
    | false =>
      cases h3 : inB l q s i 3 with
      | true => exact key 2 (by omega) h3
      | false =>
        rw [h1, h2, h3] at h
        exact key 3 (by omega) h
end Go.Proofs.Ytdjmejdfcceknaa
/- The laws of shield: who is inside, and how many. No condition. -/
namespace Go.Proofs.Ytdjmejdfcceknaa
open Go.RowKit
set_option linter.unusedSimpArgs false
set_option linter.unusedVariables false

theorem lfL_count (l : List Pe) (q : Qu) (s b : Nat) : (lfL l q s b).length + (svO l q s b).length = l.length := left_len (svO_nodup l q s b) (svO_lt l q s b)
theorem fewN (n : Int) (m : Nat) (hm : m ≤ 64) : ((min n.toNat m : Nat) : Int) ≤ min (max n 0) 64 := by omega
theorem svO_most (l : List Pe) (q : Qu) (s : Nat) (hl : l.length ≤ 30) : ((svO l q s 4).length : Int) ≤ min (max q.group 0) 64 + min (max q.ping 0) 64 + min (max q.work 0) 64 + min (max q.time 0) 64 := by
  have h1 : (svO l q s 1).length ≤ 0 + min q.group.toNat l.length := svStep_few
  have h2 : (svO l q s 2).length ≤ (svO l q s 1).length + min q.ping.toNat l.length := svStep_few
  have h3 : (svO l q s 3).length ≤ (svO l q s 2).length + min q.work.toNat l.length := svStep_few
  have h4 : (svO l q s 4).length ≤ (svO l q s 3).length + min q.time.toNat l.length := svStep_few
  have e1 := fewN q.group l.length (by omega); have e2 := fewN q.ping l.length (by omega); have e3 := fewN q.work l.length (by omega); have e4 := fewN q.time l.length (by omega)
  omega
theorem svO_least (l : List Pe) (q : Qu) (s : Nat) : min (l.length : Int) (min (max q.group 0) 64 + min (max q.time 0) 64) ≤ ((svO l q s 4).length : Int) := by
  have h1 : (svO l q s 1).length = min (0 + q.group.toNat) l.length := svStep_all List.nodup_nil (by intro i hi; cases hi) (fun i => rfl)
  have h2 : (svO l q s 1).length ≤ (svO l q s 2).length := svStep_ge
  have h3 : (svO l q s 2).length ≤ (svO l q s 3).length := svStep_ge
  have h4 : (svO l q s 4).length = min ((svO l q s 3).length + q.time.toNat) l.length := svStep_all (svO_nodup l q s 3) (svO_lt l q s 3) (fun i => rfl)
  omega
def q0 : Qu := ⟨0, 0, 0, 0⟩
theorem q0_fits : q0.fits := by unfold Qu.fits q0; decide
theorem lfL_none (l : List Pe) (s : Nat) : (lfL l q0 s 4).length = l.length := by
  have h : ∀ b, svO l q0 s b = [] := by
    intro b
    induction b with
    | zero => rfl
    | succ b ih =>
      unfold svO svStep
      rw [ih, show quN q0 (b + 1 : Nat) = 0 from by unfold quN q0; simp]; rfl
  have := lfL_count l q0 s 4
  rw [h 4] at this; simpa using this
set_option maxRecDepth 100000 in
set_option maxHeartbeats 16000000 in
theorem shieldInside_any (v : Value) (l : List Pe) (q : Qu) (s : Nat) (w : World) (h : ReadsL peV 10 w v l) (hl : ∀ x ∈ l, x.fits) (hq : q.fits) (hs : s < 18446744073709551616) :
    Calls Try.prog 10 #[v, .agg #[.int .i64 q.group, .int .i64 q.ping, .int .i64 q.work, .int .i64 q.time], .int .u64 s] w fun e w' => e = .returned (.bool true) ∧ Below w.heap.size w w' := by
  have h0 := h
  have h0' := Lib.hid h
  obtain ⟨hm, p, c, rfl, h3⟩ := pes_open h
  clear h
  have HA := Lib.hid (fun w => awake19_any w)
  rcases Int.lt_or_le 30 (l.length : Int) with hlen | hlen
  · go_enter Try.func10, Try.ntmps10
    go_wp2_with (go_at_call 47; (with_reducible refine (HA.out _).mono ?_); rintro e w2 ⟨rfl, b2⟩; obtain ⟨c2, f2⟩ := bcell b2; have z2 := b2.size; (try simp at z2); clear c2 f2)
    go_ret
    refine ⟨rfl, ?_⟩
    (repeat (first | with_reducible assumption | with_reducible exact Below.refl _ _ | with_reducible refine Below.setCell ?_ (by first | omega | (simp; done) | (simp; omega)) _ | with_reducible refine Below.alloc ?_ (by first | omega | (simp; done) | (simp; omega)) _ | with_reducible refine Below.drew ?_ | (with_reducible refine Below.trans ?_ (Below.mono (by with_reducible assumption) (by first | omega | (simp; done) | (simp; omega)))) | (refine Below.trans ?_ (Below.mono (by assumption) (by first | omega | (simp; done) | (simp; omega))))))
  rcases Nat.eq_zero_or_pos l.length with hz | hz
  · have hn : l.length ≤ 1000000 := by omega
    obtain rfl : l = [] := List.length_eq_zero_iff.1 hz
    have HS : Hid (∀ W, Below w.heap.size w W → Calls Try.prog 51 #[.slice p 0 c, .agg #[.int .i64 q.group, .int .i64 q.ping, .int .i64 q.work, .int .i64 q.time], .int .u64 s] W fun e w' => ∃ (a : Option Addr) (c : Nat), e = .returned (.slice a 0 c) ∧ Below W.heap.size W w') := fun W hW => (sh_saved_any _ [] hl q hq s hs W (ReadsL.below h0 hW) hn).mono fun e w' ⟨r, he, hr, hb⟩ => by
      obtain ⟨_, _, a, c, rfl, _⟩ := hr.open
      exact ⟨a, c, he, hb⟩
    simp only [List.length_nil]
    go_enter Try.func10, Try.ntmps10
    go_upto_region 4 with fail
    go_name_world WW0 hWW0
    have e00 : WW0.cell? ⟨w.heap.size, 0, none⟩ = some (.int .i64 q.group) := by subst hWW0; (first | (simp (disch := first | omega | (simp; omega)) [World.cell?_alloc_past, World.frozen?_alloc_past, *]; done) | (simp (disch := first | omega | (simp; omega)) [World.cell?_setCell_far, World.cell?_alloc_past, *]; done) | (simp (disch := first | omega | (simp; omega)) [World.cell?_alloc_past, World.frozen?_alloc_past, *]; rfl) | (simp (disch := first | omega | (simp; omega)) [World.cell?_setCell_far, World.cell?_alloc_past, *]; rfl) | (simp [go_sem, *]; done) | (simp (disch := first | omega | (simp; omega) | (simp [go_sem, *]; done)) [go_sem, World.cell?_setCell_far, World.cell?_alloc_past, World.frozen?_alloc_past, *]; done))
    have e01 : WW0.cell? ⟨w.heap.size, 1, none⟩ = some (.int .i64 q.ping) := by subst hWW0; (first | (simp (disch := first | omega | (simp; omega)) [World.cell?_alloc_past, World.frozen?_alloc_past, *]; done) | (simp (disch := first | omega | (simp; omega)) [World.cell?_setCell_far, World.cell?_alloc_past, *]; done) | (simp (disch := first | omega | (simp; omega)) [World.cell?_alloc_past, World.frozen?_alloc_past, *]; rfl) | (simp (disch := first | omega | (simp; omega)) [World.cell?_setCell_far, World.cell?_alloc_past, *]; rfl) | (simp [go_sem, *]; done) | (simp (disch := first | omega | (simp; omega) | (simp [go_sem, *]; done)) [go_sem, World.cell?_setCell_far, World.cell?_alloc_past, World.frozen?_alloc_past, *]; done))
    have e02 : WW0.cell? ⟨w.heap.size, 2, none⟩ = some (.int .i64 q.work) := by subst hWW0; (first | (simp (disch := first | omega | (simp; omega)) [World.cell?_alloc_past, World.frozen?_alloc_past, *]; done) | (simp (disch := first | omega | (simp; omega)) [World.cell?_setCell_far, World.cell?_alloc_past, *]; done) | (simp (disch := first | omega | (simp; omega)) [World.cell?_alloc_past, World.frozen?_alloc_past, *]; rfl) | (simp (disch := first | omega | (simp; omega)) [World.cell?_setCell_far, World.cell?_alloc_past, *]; rfl) | (simp [go_sem, *]; done) | (simp (disch := first | omega | (simp; omega) | (simp [go_sem, *]; done)) [go_sem, World.cell?_setCell_far, World.cell?_alloc_past, World.frozen?_alloc_past, *]; done))
    have e03 : WW0.cell? ⟨w.heap.size, 3, none⟩ = some (.int .i64 q.time) := by subst hWW0; (first | (simp (disch := first | omega | (simp; omega)) [World.cell?_alloc_past, World.frozen?_alloc_past, *]; done) | (simp (disch := first | omega | (simp; omega)) [World.cell?_setCell_far, World.cell?_alloc_past, *]; done) | (simp (disch := first | omega | (simp; omega)) [World.cell?_alloc_past, World.frozen?_alloc_past, *]; rfl) | (simp (disch := first | omega | (simp; omega)) [World.cell?_setCell_far, World.cell?_alloc_past, *]; rfl) | (simp [go_sem, *]; done) | (simp (disch := first | omega | (simp; omega) | (simp [go_sem, *]; done)) [go_sem, World.cell?_setCell_far, World.cell?_alloc_past, World.frozen?_alloc_past, *]; done))
    have bw0 : Below w.heap.size w WW0 := by subst hWW0; (repeat (first | assumption | exact Below.refl _ _ | refine Below.setCell ?_ (by first | omega | (simp; done) | (simp; omega)) _ | refine Below.alloc ?_ (by first | omega | (simp; done) | (simp; omega)) _ | refine Below.drew ?_ | (refine Below.trans ?_ (Below.mono (by assumption) (by first | omega | (simp; done) | (simp; omega))))))
    have zw0 : _ := bw0.size
    have lW00 : w.heap.size < WW0.heap.size := by subst hWW0; first | omega | (simp; done) | (simp; omega)
    clear hWW0
    go_loopw [7, 8] (fun i' _ wr => i' = .int .i64 0 ∧ Hid (Below WW0.heap.size WW0 wr)) (fun _ _ _ => 0)
    case atStart => exact ⟨rfl, Below.refl _ _⟩
    case round =>
      obtain ⟨rfl, HB⟩ := hrel
      have HBW := Lib.hid (below2 bw0 HB.out)
      have e0 := keep HB.out lW00 e00
      have e1 := keep HB.out lW00 e01
      have e2 := keep HB.out lW00 e02
      have e3 := keep HB.out lW00 e03
      go_wp2_with (go_at_call 51; (with_reducible refine (HS.out _ HBW.out).mono ?_); rintro e w5 ⟨a5, c5, rfl, b5⟩)
      clear e0 e1 e2 e3
      have HB5 := Lib.hid (below2 HBW.out b5)
      go_loopw [10] (fun i' wr => i' = .int .i64 0 ∧ Hid (Below w.heap.size w wr)) (fun _ _ => 0)
      case atStart => exact ⟨rfl, HB5.out⟩
      case round =>
        obtain ⟨rfl, HB9⟩ := hrel
        go_wp2_with (go_at_call 47; (with_reducible refine (HA.out _).mono ?_); rintro e w9 ⟨rfl, b9⟩)
        go_ret
        exact ⟨rfl, below2 HB9.out b9⟩
  · obtain ⟨b, o, rfl, h4, h5, h6⟩ := h3 hz
    clear h3
    go_enter Try.func10, Try.ntmps10
    go_upto_region 4 with fail
    go_name_world WW0 hWW0
    have e00 : WW0.cell? ⟨w.heap.size, 0, none⟩ = some (.int .i64 q.group) := by subst hWW0; (first | (simp (disch := first | omega | (simp; omega)) [World.cell?_alloc_past, World.frozen?_alloc_past, *]; done) | (simp (disch := first | omega | (simp; omega)) [World.cell?_setCell_far, World.cell?_alloc_past, *]; done) | (simp (disch := first | omega | (simp; omega)) [World.cell?_alloc_past, World.frozen?_alloc_past, *]; rfl) | (simp (disch := first | omega | (simp; omega)) [World.cell?_setCell_far, World.cell?_alloc_past, *]; rfl) | (simp [go_sem, *]; done) | (simp (disch := first | omega | (simp; omega) | (simp [go_sem, *]; done)) [go_sem, World.cell?_setCell_far, World.cell?_alloc_past, World.frozen?_alloc_past, *]; done))
    have e01 : WW0.cell? ⟨w.heap.size, 1, none⟩ = some (.int .i64 q.ping) := by subst hWW0; (first | (simp (disch := first | omega | (simp; omega)) [World.cell?_alloc_past, World.frozen?_alloc_past, *]; done) | (simp (disch := first | omega | (simp; omega)) [World.cell?_setCell_far, World.cell?_alloc_past, *]; done) | (simp (disch := first | omega | (simp; omega)) [World.cell?_alloc_past, World.frozen?_alloc_past, *]; rfl) | (simp (disch := first | omega | (simp; omega)) [World.cell?_setCell_far, World.cell?_alloc_past, *]; rfl) | (simp [go_sem, *]; done) | (simp (disch := first | omega | (simp; omega) | (simp [go_sem, *]; done)) [go_sem, World.cell?_setCell_far, World.cell?_alloc_past, World.frozen?_alloc_past, *]; done))
    have e02 : WW0.cell? ⟨w.heap.size, 2, none⟩ = some (.int .i64 q.work) := by subst hWW0; (first | (simp (disch := first | omega | (simp; omega)) [World.cell?_alloc_past, World.frozen?_alloc_past, *]; done) | (simp (disch := first | omega | (simp; omega)) [World.cell?_setCell_far, World.cell?_alloc_past, *]; done) | (simp (disch := first | omega | (simp; omega)) [World.cell?_alloc_past, World.frozen?_alloc_past, *]; rfl) | (simp (disch := first | omega | (simp; omega)) [World.cell?_setCell_far, World.cell?_alloc_past, *]; rfl) | (simp [go_sem, *]; done) | (simp (disch := first | omega | (simp; omega) | (simp [go_sem, *]; done)) [go_sem, World.cell?_setCell_far, World.cell?_alloc_past, World.frozen?_alloc_past, *]; done))
    have e03 : WW0.cell? ⟨w.heap.size, 3, none⟩ = some (.int .i64 q.time) := by subst hWW0; (first | (simp (disch := first | omega | (simp; omega)) [World.cell?_alloc_past, World.frozen?_alloc_past, *]; done) | (simp (disch := first | omega | (simp; omega)) [World.cell?_setCell_far, World.cell?_alloc_past, *]; done) | (simp (disch := first | omega | (simp; omega)) [World.cell?_alloc_past, World.frozen?_alloc_past, *]; rfl) | (simp (disch := first | omega | (simp; omega)) [World.cell?_setCell_far, World.cell?_alloc_past, *]; rfl) | (simp [go_sem, *]; done) | (simp (disch := first | omega | (simp; omega) | (simp [go_sem, *]; done)) [go_sem, World.cell?_setCell_far, World.cell?_alloc_past, World.frozen?_alloc_past, *]; done))
    have bw0 : Below w.heap.size w WW0 := by subst hWW0; (repeat (first | assumption | exact Below.refl _ _ | refine Below.setCell ?_ (by first | omega | (simp; done) | (simp; omega)) _ | refine Below.alloc ?_ (by first | omega | (simp; done) | (simp; omega)) _ | refine Below.drew ?_ | (refine Below.trans ?_ (Below.mono (by assumption) (by first | omega | (simp; done) | (simp; omega))))))
    have zw0 : _ := bw0.size
    have lW00 : w.heap.size < WW0.heap.size := by subst hWW0; first | omega | (simp; done) | (simp; omega)
    clear hWW0
    go_loopw [7, 8] (fun i' _ wr => ∃ i : Nat, i ≤ l.length ∧ i' = .int .i64 i ∧ Hid (∀ x y, x < y → y < i → (rkGet l x).en ≠ (rkGet l y).en) ∧ Hid (Below WW0.heap.size WW0 wr)) (fun i' _ _ => l.length - (intOf i').toNat)
    case atStart => exact ⟨0, by omega, rfl, fun x y h1 h2 => by omega, Below.refl _ _⟩
    case round =>
      obtain ⟨i, hi, rfl, HU, HB⟩ := hrel
      obtain ⟨wo, rfl⟩ : ∃ wo : World, wo = wr := ⟨_, rfl⟩
      by_cases hlt : i < l.length
      · obtain ⟨pi, hpi⟩ : ∃ p, l[i]? = some p := ⟨_, List.getElem?_eq_getElem hlt⟩
        have q1 : (0 : Int) ≤ (i : Int) := by omega
        have q2 : (i : Int) < (l.length : Int) := by omega
        go_wp2_with fail
        go_loopw [8] (fun k' wr => ∃ k : Nat, k ≤ i ∧ k' = .int .i64 k ∧ Hid (∀ x, x < k → (rkGet l x).en ≠ pi.en) ∧ Hid (Below WW0.heap.size WW0 wr)) (fun k' _ => i - (intOf k').toNat)
        case atStart => exact ⟨0, by omega, rfl, fun x h1 => by omega, HB.out⟩
        case round =>
          obtain ⟨k, hk, rfl, HV, HB2⟩ := hrel
          have hbw := bw0.trans (HB2.out.mono bw0.size)
          by_cases hki : k < i
          · obtain ⟨pk, hpk⟩ : ∃ p, l[k]? = some p := ⟨_, List.getElem?_eq_getElem (show k < l.length by omega)⟩
            have K := ((h6 i pi hpi).below hbw h5).ext (Nat.lt_of_lt_of_le h5 hbw.size)
            have K2 := ((h6 k pk hpk).below hbw h5).ext (Nat.lt_of_lt_of_le h5 hbw.size)
            have x0 := fun y => (K y).1; have x1 := fun y => (K y).2.1; have x2 := fun y => (K y).2.2.1; have x3 := fun y => (K y).2.2.2.1
            have y0 := fun y => (K2 y).1; have y1 := fun y => (K2 y).2.1; have y2 := fun y => (K2 y).2.2.1; have y3 := fun y => (K2 y).2.2.2.1
            have q3 : (0 : Int) ≤ (k : Int) := by omega
            have q4 : (k : Int) < (l.length : Int) := by omega
            have q5 : (k : Int) < (i : Int) := by omega
            have q := fun W => eqlEn pi.en pk.en W
            have HG := Lib.hid (rkGet_at hpk)
            have HPI := Lib.hid hpi; have HPK := Lib.hid hpk
            clear K K2 hpi hpk
            by_cases he : pi.en = pk.en
            · have hd : decide (pi.en = pk.en) = true := decide_eq_true he
              rw [hd] at q
              clear hd he
              go_wp2_with fail
              refine wp_region_ext (by kernel_rfl) (by kernel_rfl) ?_
              repeat (go_big_quiet_step (fail))
              refine wpQuiet_nil ?_
              intro _ hw'
              obtain ⟨gx, hw''⟩ := hw'
              subst hw''
              clear x0 x1 x2 x3 y0 y1 y2 y3 q
              have b8 := below2 hbw (ext_below wr gx)
              go_wp2_with (go_at_call 47; (with_reducible refine (HA.out _).mono ?_); rintro e w9 ⟨rfl, b9⟩)
              go_ret
              exact ⟨rfl, below2 b8 b9⟩
            · have hd : decide (pi.en = pk.en) = false := decide_eq_false he
              rw [hd] at q
              have HE := Lib.hid he
              clear hd he
              go_wp2_with fail
              refine wp_region_ext (by kernel_rfl) (by kernel_rfl) ?_
              repeat (go_big_quiet_step (fail))
              refine wpQuiet_nil ?_
              intro _ hw'
              obtain ⟨gx, hw''⟩ := hw'
              subst hw''
              clear x0 x1 x2 x3 y0 y1 y2 y3 q
              go_wp2_with fail
              go_roundw
              case rel => exact ⟨k + 1, by omega, by go_num, fun x hx => by
                rcases Nat.lt_or_ge x k with h1 | h1
                · exact HV.out x h1
                · obtain rfl : x = k := by omega
                  rw [HG.out]; exact fun e => HE.out e.symm, HB2.out.trans ((ext_below wr gx).mono HB2.out.size)⟩
              case measure => simp [intOf]; omega
          · obtain rfl : k = i := by omega
            go_wp2_with fail
            go_roundw
            case rel => exact ⟨k + 1, by omega, by go_num, fun x y h1 h2 => by
              rcases Nat.lt_or_ge y k with h7 | h7
              · exact HU.out x y h1 h7
              · obtain rfl : y = k := by omega
                rw [rkGet_at hpi]; exact HV.out x h1, HB2.out⟩
            case measure => simp [intOf]; omega
      · obtain rfl : i = l.length := by omega
        have HUN : Hid (Unlike l) := List.pairwise_iff_getElem.2 fun x y hx hy hxy => by
          have := HU.out x y hxy hy
          rwa [rkGet_at (List.getElem?_eq_getElem hx), rkGet_at (List.getElem?_eq_getElem hy)] at this
        have hbw := bw0.trans (HB.out.mono bw0.size)
        have HBW := Lib.hid hbw
        have e0 := keep HB.out lW00 e00
        have e1 := keep HB.out lW00 e01
        have e2 := keep HB.out lW00 e02
        have e3 := keep HB.out lW00 e03
        have hn : l.length ≤ 1000000 := by omega
        have HSV := Lib.hid (fun W (hW : Below w.heap.size w W) => sh_saved_any _ l hl q hq s hs W (ReadsL.below h0 hW) hn)
        clear hbw e00 e01 e02 e03 h6
        go_upto_region 12 with (go_at_call 51; (with_reducible refine (HSV.out _ HBW.out).mono ?_); rintro e w5 ⟨r5, rfl, o5, b5⟩)
        obtain ⟨_, _, a5, c5, rfl, k5⟩ := o5.open
        obtain ⟨b', o', rfl, hc5, hl5, hx5⟩ := k5 hz
        have HB5 := Lib.hid (below2 HBW.out b5)
        have HX5 := Lib.hid (fun i x (h : (usedV l.length (svO l q s 4))[i]? = some x) => hx5 i x h)
        have hlw : w.heap.size < wo.heap.size := Nat.lt_of_lt_of_le lW00 HB.out.size
        have g0 := keep b5 hlw e0
        have g1 := keep b5 hlw e1
        have g2 := keep b5 hlw e2
        have g3 := keep b5 hlw e3
        have hlw5 : w.heap.size < w5.heap.size := Nat.lt_of_lt_of_le hlw b5.size
        clear k5 hx5 o5 e0 e1 e2 e3 b5 HSV
        go_wp2_with fail
        go_loopw [10] (fun i' wr => ∃ i : Nat, i ≤ l.length ∧ i' = .int .i64 i ∧ Hid (Below w5.heap.size w5 wr)) (fun i' _ => l.length - (intOf i').toNat)
        case atStart => exact ⟨0, by omega, rfl, Below.refl _ _⟩
        case round =>
          obtain ⟨i, hi, rfl, HBi⟩ := hrel
          by_cases hlt : i < l.length
          · have q1 : (0 : Int) ≤ (i : Int) := by omega
            have q2 : (i : Int) < (l.length : Int) := by omega
            have hcell := HX5.out i _ (usedV_get hlt)
            have e0 := keep HBi.out hlw5 g0
            have e1 := keep HBi.out hlw5 g1
            have e2 := keep HBi.out hlw5 g2
            have e3 := keep HBi.out hlw5 g3
            have hin := sh_inside_any _ l hl i q s hs wr (ReadsL.below h0 (below2 HB5.out HBi.out)) hn
            have hsv := inside_saved (q := q) (s := s) HUN.out hlt
            cases hc : shIn l i q s with
            | false =>
              rw [hc] at hin
              have HIN := Lib.hid hin
              clear hin hsv hc hcell
              go_wp2_with (go_at_call 48; (with_reducible refine (HIN.out).mono ?_); rintro e w7 ⟨rfl, b7⟩)
              go_roundw
              case rel => exact ⟨i + 1, by omega, by go_num, below2 HBi.out b7⟩
              case measure => simp [intOf]; omega
            | true =>
              rw [hc] at hin
              rw [decide_eq_true (hsv hc)] at hcell
              have HIN := Lib.hid hin
              clear hin hsv hc
              go_wp2_with (go_at_call 48; (with_reducible refine (HIN.out).mono ?_); rintro e w7 ⟨rfl, b7⟩; have f7 := keep (below2 HBi.out b7) hl5 hcell)
              go_roundw
              case rel => exact ⟨i + 1, by omega, by go_num, below2 HBi.out b7⟩
              case measure => simp [intOf]; omega
          · obtain rfl : i = l.length := by omega
            go_wp2_with (go_at_call 47; (with_reducible refine (HA.out _).mono ?_); rintro e w9 ⟨rfl, b9⟩)
            go_ret
            exact ⟨rfl, below2 (below2 HB5.out HBi.out) b9⟩
set_option maxRecDepth 100000 in
set_option maxHeartbeats 16000000 in
theorem shieldCounts_any (v : Value) (l : List Pe) (q : Qu) (s : Nat) (w : World) (h : ReadsL peV 10 w v l) (hl : ∀ x ∈ l, x.fits) (hq : q.fits) (hs : s < 18446744073709551616) :
    Calls Try.prog 11 #[v, .agg #[.int .i64 q.group, .int .i64 q.ping, .int .i64 q.work, .int .i64 q.time], .int .u64 s] w fun e w' => e = .returned (.bool true) ∧ Below w.heap.size w w' := by
  have h0 := Lib.hid h
  obtain ⟨hm, p, c, rfl, h3⟩ := pes_open h
  clear h h3
  have HA := Lib.hid (fun w => awake19_any w)
  rcases Int.lt_or_le 30 (l.length : Int) with hlen | hlen
  · go_enter Try.func11, Try.ntmps11
    go_wp2_with (go_at_call 47; (with_reducible refine (HA.out _).mono ?_); rintro e w2 ⟨rfl, b2⟩; obtain ⟨c2, f2⟩ := bcell b2; have z2 := b2.size; (try simp at z2); clear c2 f2)
    go_ret
    refine ⟨rfl, ?_⟩
    (repeat (first | with_reducible assumption | with_reducible exact Below.refl _ _ | with_reducible refine Below.setCell ?_ (by first | omega | (simp; done) | (simp; omega)) _ | with_reducible refine Below.alloc ?_ (by first | omega | (simp; done) | (simp; omega)) _ | with_reducible refine Below.drew ?_ | (with_reducible refine Below.trans ?_ (Below.mono (by with_reducible assumption) (by first | omega | (simp; done) | (simp; omega)))) | (refine Below.trans ?_ (Below.mono (by assumption) (by first | omega | (simp; done) | (simp; omega))))))
  · have hn : l.length ≤ 1000000 := by omega
    have F1 := fun w => few_any q.group w
    have F2 := fun w => few_any q.ping w
    have F3 := fun w => few_any q.work w
    have F4 := fun w => few_any q.time w
    have hmost := svO_most l q s (by omega)
    have hleast := svO_least l q s
    have hcnt := lfL_count l q s 4
    obtain ⟨x1, hx1⟩ : ∃ x, min (max q.group 0) 64 = x := ⟨_, rfl⟩
    obtain ⟨x2, hx2⟩ : ∃ x, min (max q.ping 0) 64 = x := ⟨_, rfl⟩
    obtain ⟨x3, hx3⟩ : ∃ x, min (max q.work 0) 64 = x := ⟨_, rfl⟩
    obtain ⟨x4, hx4⟩ : ∃ x, min (max q.time 0) 64 = x := ⟨_, rfl⟩
    rw [hx1] at F1 hmost hleast
    rw [hx2] at F2 hmost
    rw [hx3] at F3 hmost
    rw [hx4] at F4 hmost hleast
    have r1 : 0 ≤ x1 ∧ x1 ≤ 64 := by omega
    have r2 : 0 ≤ x2 ∧ x2 ≤ 64 := by omega
    have r3 : 0 ≤ x3 ∧ x3 ≤ 64 := by omega
    have r4 : 0 ≤ x4 ∧ x4 ≤ 64 := by omega
    clear hx1 hx2 hx3 hx4
    have HF1 := Lib.hid F1; have HF2 := Lib.hid F2; have HF3 := Lib.hid F3; have HF4 := Lib.hid F4
    clear F1 F2 F3 F4
    have HL := Lib.hid (fun W (hW : Below w.heap.size w W) => sh_left_any _ l hl q hq s hs W (ReadsL.below h0.out hW) hn)
    have HL0 := Lib.hid (fun W (hW : Below w.heap.size w W) => sh_left_any _ l hl q0 q0_fits s hs W (ReadsL.below h0.out hW) hn)
    have HN0 := Lib.hid (lfL_none l s)
    obtain ⟨m, hm1⟩ : ∃ m, m = (lfL l q s 4).length := ⟨_, rfl⟩
    rw [← hm1] at hcnt
    have c1 : (l.length : Int) - (m : Int) ≤ x1 + x2 + x3 + x4 := by omega
    have c2 : (m : Int) ≤ (l.length : Int) := by omega
    have c3 : min (l.length : Int) (x1 + x4) ≤ (l.length : Int) - (m : Int) := by omega
    have HM := Lib.hid hm1
    clear hm1 hcnt hmost hleast
    generalize svO l q s 4 = O at *
    go_enter Try.func11, Try.ntmps11
    go_upto_region 3 with fail
    go_name_world WW0 hWW0
    have e00 : WW0.cell? ⟨w.heap.size, 0, none⟩ = some (.int .i64 q.group) := by subst hWW0; (first | (simp (disch := first | omega | (simp; omega)) [World.cell?_alloc_past, World.frozen?_alloc_past, *]; done) | (simp (disch := first | omega | (simp; omega)) [World.cell?_setCell_far, World.cell?_alloc_past, *]; done) | (simp (disch := first | omega | (simp; omega)) [World.cell?_alloc_past, World.frozen?_alloc_past, *]; rfl) | (simp (disch := first | omega | (simp; omega)) [World.cell?_setCell_far, World.cell?_alloc_past, *]; rfl) | (simp [go_sem, *]; done) | (simp (disch := first | omega | (simp; omega) | (simp [go_sem, *]; done)) [go_sem, World.cell?_setCell_far, World.cell?_alloc_past, World.frozen?_alloc_past, *]; done))
    have e01 : WW0.cell? ⟨w.heap.size, 1, none⟩ = some (.int .i64 q.ping) := by subst hWW0; (first | (simp (disch := first | omega | (simp; omega)) [World.cell?_alloc_past, World.frozen?_alloc_past, *]; done) | (simp (disch := first | omega | (simp; omega)) [World.cell?_setCell_far, World.cell?_alloc_past, *]; done) | (simp (disch := first | omega | (simp; omega)) [World.cell?_alloc_past, World.frozen?_alloc_past, *]; rfl) | (simp (disch := first | omega | (simp; omega)) [World.cell?_setCell_far, World.cell?_alloc_past, *]; rfl) | (simp [go_sem, *]; done) | (simp (disch := first | omega | (simp; omega) | (simp [go_sem, *]; done)) [go_sem, World.cell?_setCell_far, World.cell?_alloc_past, World.frozen?_alloc_past, *]; done))
    have e02 : WW0.cell? ⟨w.heap.size, 2, none⟩ = some (.int .i64 q.work) := by subst hWW0; (first | (simp (disch := first | omega | (simp; omega)) [World.cell?_alloc_past, World.frozen?_alloc_past, *]; done) | (simp (disch := first | omega | (simp; omega)) [World.cell?_setCell_far, World.cell?_alloc_past, *]; done) | (simp (disch := first | omega | (simp; omega)) [World.cell?_alloc_past, World.frozen?_alloc_past, *]; rfl) | (simp (disch := first | omega | (simp; omega)) [World.cell?_setCell_far, World.cell?_alloc_past, *]; rfl) | (simp [go_sem, *]; done) | (simp (disch := first | omega | (simp; omega) | (simp [go_sem, *]; done)) [go_sem, World.cell?_setCell_far, World.cell?_alloc_past, World.frozen?_alloc_past, *]; done))
    have e03 : WW0.cell? ⟨w.heap.size, 3, none⟩ = some (.int .i64 q.time) := by subst hWW0; (first | (simp (disch := first | omega | (simp; omega)) [World.cell?_alloc_past, World.frozen?_alloc_past, *]; done) | (simp (disch := first | omega | (simp; omega)) [World.cell?_setCell_far, World.cell?_alloc_past, *]; done) | (simp (disch := first | omega | (simp; omega)) [World.cell?_alloc_past, World.frozen?_alloc_past, *]; rfl) | (simp (disch := first | omega | (simp; omega)) [World.cell?_setCell_far, World.cell?_alloc_past, *]; rfl) | (simp [go_sem, *]; done) | (simp (disch := first | omega | (simp; omega) | (simp [go_sem, *]; done)) [go_sem, World.cell?_setCell_far, World.cell?_alloc_past, World.frozen?_alloc_past, *]; done))
    have bw0 : Below w.heap.size w WW0 := by subst hWW0; (repeat (first | assumption | exact Below.refl _ _ | refine Below.setCell ?_ (by first | omega | (simp; done) | (simp; omega)) _ | refine Below.alloc ?_ (by first | omega | (simp; done) | (simp; omega)) _ | refine Below.drew ?_ | (refine Below.trans ?_ (Below.mono (by assumption) (by first | omega | (simp; done) | (simp; omega))))))
    have zw0 : _ := bw0.size
    have lW00 : w.heap.size < WW0.heap.size := by subst hWW0; first | omega | (simp; done) | (simp; omega)
    clear hWW0
    have HB0 := Lib.hid bw0
    have f0 := fun y => (ext_cell WW0 y (p := ⟨w.heap.size, 0, none⟩) lW00).trans e00
    have f1 := fun y => (ext_cell WW0 y (p := ⟨w.heap.size, 1, none⟩) lW00).trans e01
    have f2 := fun y => (ext_cell WW0 y (p := ⟨w.heap.size, 2, none⟩) lW00).trans e02
    have f3 := fun y => (ext_cell WW0 y (p := ⟨w.heap.size, 3, none⟩) lW00).trans e03
    clear e00 e01 e02 e03
    refine wp_region_ext (by kernel_rfl) (by kernel_rfl) ?_
    repeat (go_big_quiet_step ((first | (go_at_call 55; with_reducible exact qs (HF1.out _)) | (go_at_call 55; with_reducible exact qs (HF2.out _)) | (go_at_call 55; with_reducible exact qs (HF3.out _)) | (go_at_call 55; with_reducible exact qs (HF4.out _)))))
    refine wpQuiet_nil ?_
    intro _ hw'
    obtain ⟨gx, hw3⟩ := hw'
    subst hw3
    have g0 := f0 gx; have g1 := f1 gx; have g2 := f2 gx; have g3 := f3 gx
    clear f0 f1 f2 f3
    have HB1 := Lib.hid (below2 HB0.out (ext_below WW0 gx))
    have hlw : w.heap.size < (ext WW0 gx).heap.size := Nat.lt_of_lt_of_le lW00 (ext_below WW0 gx).size
    generalize ext WW0 gx = W1 at *
    go_upto_region 5 with (go_at_call 53; (with_reducible refine (HL.out _ HB1.out).mono ?_); rintro e w5 ⟨r5, rfl, o5, b5⟩)
    obtain ⟨a5, c5, rfl⟩ := owns_slice o5
    have e0 := keep b5 hlw g0
    have e1 := keep b5 hlw g1
    have e2 := keep b5 hlw g2
    have e3 := keep b5 hlw g3
    have HB5 := Lib.hid (below2 HB1.out b5)
    have hlw5 : w.heap.size < w5.heap.size := Nat.lt_of_lt_of_le hlw b5.size
    rw [← HM.out]
    have d1 : decide ((l.length : Int) - (m : Int) ≤ x1 + x2 + x3 + x4) = true := decide_eq_true c1
    have d2 : decide ((m : Int) ≤ (l.length : Int)) = true := decide_eq_true c2
    have d3 : decide (min (l.length : Int) (x1 + x4) ≤ (l.length : Int) - (m : Int)) = true := decide_eq_true c3
    have q3 : IntKind.i64.wrap ((l.length : Int) - (m : Int)) = (l.length : Int) - (m : Int) := IntWalk.i64_in _ (by omega)
    have q4 : IntKind.i64.wrap (x1 + x4) = x1 + x4 := IntWalk.i64_in _ (by omega)
    have HL5 : Hid (∀ W, Below w5.heap.size w5 W → Calls Try.prog 53 #[.slice p l.length c, .agg #[.int .i64 0, .int .i64 0, .int .i64 0, .int .i64 0], .int .u64 s] W fun e w' => ∃ r, e = .returned r ∧ w'.ownsRow W.heap.size 3 1 r (lfL l q0 s 4).length ((lfL l q0 s 4).map natV) ∧ Below W.heap.size W w') := fun W hW => HL0.out W (below2 HB5.out hW)
    clear o5 b5 g0 g1 g2 g3
    go_region_held3 (fun w' => w'.cell? ⟨w.heap.size, 0, none⟩ = some (.int .i64 q.group) ∧ w'.cell? ⟨w.heap.size, 3, none⟩ = some (.int .i64 q.time)) (first | go_keep | (simp (disch := omega) [*])) (first | (go_at_call 55; (with_reducible refine (HF1.out _).mono ?_); rintro e w6 ⟨rfl, rfl⟩) | (go_at_call 55; (with_reducible refine (HF4.out _).mono ?_); rintro e w7 ⟨rfl, rfl⟩) | (go_at_call 53; (with_reducible refine (HL5.out _ (by (repeat (first | with_reducible assumption | with_reducible exact Below.refl _ _ | with_reducible refine Below.setCell ?_ (by first | omega | (simp; done) | (simp; omega)) _ | with_reducible refine Below.alloc ?_ (by first | omega | (simp; done) | (simp; omega)) _ | with_reducible refine Below.drew ?_ | (with_reducible refine Below.trans ?_ (Below.mono (by with_reducible assumption) (by first | omega | (simp; done) | (simp; omega)))) | (refine Below.trans ?_ (Below.mono (by assumption) (by first | omega | (simp; done) | (simp; omega)))))))).mono ?_); rintro e w8 ⟨r8, rfl, o8, b8⟩; obtain ⟨a8, c8, rfl⟩ := owns_slice o8; (try rw [HN0.out]); have z8 := b8.size; (try simp at z8); have d8 := fun o => (bcell b8).1 (w.heap.size) o (by first | omega | (simp; done) | (simp; omega))) | (go_at_call 47; (with_reducible refine (HA.out _).mono ?_); rintro e w9 ⟨rfl, b9⟩; have z9 := b9.size; (try simp at z9); have d9 := fun o => (bcell b9).1 (w.heap.size) o (by first | omega | (simp; done) | (simp; omega))))
    all_goals
      go_wp2_with fail
      go_ret
      refine ⟨rfl, ?_⟩
      refine Below.trans HB5.out (Below.mono (B := w5.heap.size) ?_ HB5.out.size)
      (repeat (first | with_reducible assumption | with_reducible exact Below.refl _ _ | with_reducible refine Below.setCell ?_ (by first | omega | (simp; done) | (simp; omega)) _ | with_reducible refine Below.alloc ?_ (by first | omega | (simp; done) | (simp; omega)) _ | with_reducible refine Below.drew ?_ | (with_reducible refine Below.trans ?_ (Below.mono (by with_reducible assumption) (by first | omega | (simp; done) | (simp; omega)))) | (refine Below.trans ?_ (Below.mono (by assumption) (by first | omega | (simp; done) | (simp; omega))))))
end Go.Proofs.Ytdjmejdfcceknaa
/- How quotas are opened. No condition. -/
namespace Go.Proofs.Ytdjmejdfcceknaa
open Go.ChangeShapes Go.WideShapes Go.ChangeAt Go.RowKit Go.Deep
def quV (q : Qu) : List Value := [.int .i64 q.group, .int .i64 q.ping, .int .i64 q.work, .int .i64 q.time]
theorem quV_len (q : Qu) : (quV q).length = 4 := rfl
theorem opens_qu : Opens Try.prog 63 quV Qu.fits :=
  (opens_of_fields Try.underlying63 (opensF_cons (n := 1) (opens_i64 Try.underlying3) (by kernel_rfl) rfl (opensF_cons (n := 1) (opens_i64 Try.underlying3) (by kernel_rfl) rfl (opensF_cons (n := 1) (opens_i64 Try.underlying3) (by kernel_rfl) rfl (opensF_cons (n := 1) (opens_i64 Try.underlying3) (by kernel_rfl) rfl opensF_nil)))) (by kernel_rfl)).map
    fun ⟨g, p, k, t, _⟩ ⟨h1, h2, h3, h4, _⟩ => ⟨⟨g, p, k, t⟩, ⟨h1, h2, h3, h4⟩, rfl⟩
end Go.Proofs.Ytdjmejdfcceknaa
