/- Texts put together: Shield, ShieldB, ShieldC, ShieldD, PlSaved, QuV. No condition. -/
import Derived.Test.YtppmjbnhghaffaaQ64ba80ewyirv
import Derived.Test.YtppmjbnhghaffaaQa67ed1ocmklx
import Derived.Test.YtppmjbnhghaffaaQ668131zdrcan
import Derived.Test.YtppmjbnhghaffaaQTail
import Derived.Test.YtppmjbnhghaffaaPeM
import Derived.Test.YtppmjbnhghaffaaQ3ab674swarur
/- The contracts of who is inside a quota. Conditions: numbers are 64 bits. -/
namespace Go.Proofs.Ytppmjbnhghaffaa
open Go.RowKit
set_option linter.unusedSimpArgs false
set_option linter.unusedVariables false

structure Qu where
  group : Int
  ping : Int
  work : Int
  time : Int
def quN (q : Qu) (b : Int) : Int := if b = 1 then q.group else if b = 2 then q.ping else if b = 3 then q.work else q.time
def inB (l : List Pe) (q : Qu) (s i : Nat) (b : Int) : Bool := rkCounts (rkGet l i) b && decide (rkRank l i b s < quN q b)
def shIn (l : List Pe) (i : Int) (q : Qu) (s : Nat) : Bool := if i < 0 ∨ (l.length : Int) ≤ i then false else inB l q s i.toNat 1 || (inB l q s i.toNat 2 || (inB l q s i.toNat 3 || inB l q s i.toNat 4))
theorem shIn_out {l : List Pe} {i : Int} {q : Qu} {s : Nat} (h : i < 0 ∨ (l.length : Int) ≤ i) : shIn l i q s = false := by unfold shIn; rw [if_pos h]
theorem shIn_at {l : List Pe} {i : Nat} {q : Qu} {s : Nat} (h : i < l.length) : shIn l i q s = (inB l q s i 1 || (inB l q s i 2 || (inB l q s i 3 || inB l q s i 4))) := by unfold shIn; rw [if_neg (by omega), show ((i : Int)).toNat = i from by omega]
theorem shIn_none {l : List Pe} {i : Nat} {q : Qu} {s : Nat} (h : i < l.length) (hn : ∀ b : Nat, 1 ≤ b → b ≤ 4 → inB l q s i b = false) : shIn l i q s = false := by
  rw [shIn_at h, show inB l q s i 1 = false from hn 1 (by omega) (by omega), show inB l q s i 2 = false from hn 2 (by omega) (by omega), show inB l q s i 3 = false from hn 3 (by omega) (by omega), show inB l q s i 4 = false from hn 4 (by omega) (by omega)]; rfl
theorem shIn_one {l : List Pe} {i : Nat} {q : Qu} {s : Nat} (h : i < l.length) {b : Nat} (h1 : 1 ≤ b) (h4 : b ≤ 4) (hb : inB l q s i b = true) : shIn l i q s = true := by
  rw [shIn_at h]
  rcases (show b = 1 ∨ b = 2 ∨ b = 3 ∨ b = 4 by omega) with rfl | rfl | rfl | rfl
  · rw [show inB l q s i 1 = true from hb]; rfl
  · rw [show inB l q s i 2 = true from hb]; simp
  · rw [show inB l q s i 3 = true from hb]; simp
  · rw [show inB l q s i 4 = true from hb]; simp
theorem inB_no {l : List Pe} {i : Nat} {q : Qu} {s : Nat} {b : Int} {c : Bool} (hc : rkCounts (rkGet l i) b = c) (h : c = false ∨ ¬ rkRank l i b s < quN q b) : inB l q s i b = false := by
  unfold inB; rw [hc]
  rcases h with h | h
  · rw [h]; rfl
  · rw [decide_eq_false h]; simp
theorem inB_yes {l : List Pe} {i : Nat} {q : Qu} {s : Nat} {b : Int} (hc : rkCounts (rkGet l i) b = true) (h : rkRank l i b s < quN q b) : inB l q s i b = true := by
  unfold inB; rw [hc, decide_eq_true h]; rfl
set_option maxRecDepth 100000 in
theorem turns_any (q : Qu) (w : World) : Calls Try.prog 189 #[.agg #[.int .i64 q.group, .int .i64 q.ping, .int .i64 q.work, .int .i64 q.time]] w fun e w' => e = .returned (.agg #[.int .i64 1, .int .i64 q.group, .int .i64 2, .int .i64 q.ping, .int .i64 3, .int .i64 q.work, .int .i64 4, .int .i64 q.time]) ∧ Below w.heap.size w w' := by
  go_enter Try.func189, Try.ntmps189
  go_wp2_with fail
  refine bodyPost_named fun W9 h9 => ?_
  have e90 : W9.cell? ⟨w.heap.size + 1, 0, none⟩ = some (.int .i64 1) := by subst h9; (first | (simp [go_sem, *]; done) | (simp (disch := first | omega | (simp; omega) | (simp [go_sem, *]; done)) [go_sem, World.cell?_setCell_far, World.cell?_alloc_past, *]; done))
  have e91 : W9.cell? ⟨w.heap.size + 1, 1, none⟩ = some (.int .i64 q.group) := by subst h9; (first | (simp [go_sem, *]; done) | (simp (disch := first | omega | (simp; omega) | (simp [go_sem, *]; done)) [go_sem, World.cell?_setCell_far, World.cell?_alloc_past, *]; done))
  have e92 : W9.cell? ⟨w.heap.size + 1, 2, none⟩ = some (.int .i64 2) := by subst h9; (first | (simp [go_sem, *]; done) | (simp (disch := first | omega | (simp; omega) | (simp [go_sem, *]; done)) [go_sem, World.cell?_setCell_far, World.cell?_alloc_past, *]; done))
  have e93 : W9.cell? ⟨w.heap.size + 1, 3, none⟩ = some (.int .i64 q.ping) := by subst h9; (first | (simp [go_sem, *]; done) | (simp (disch := first | omega | (simp; omega) | (simp [go_sem, *]; done)) [go_sem, World.cell?_setCell_far, World.cell?_alloc_past, *]; done))
  have e94 : W9.cell? ⟨w.heap.size + 1, 4, none⟩ = some (.int .i64 3) := by subst h9; (first | (simp [go_sem, *]; done) | (simp (disch := first | omega | (simp; omega) | (simp [go_sem, *]; done)) [go_sem, World.cell?_setCell_far, World.cell?_alloc_past, *]; done))
  have e95 : W9.cell? ⟨w.heap.size + 1, 5, none⟩ = some (.int .i64 q.work) := by subst h9; (first | (simp [go_sem, *]; done) | (simp (disch := first | omega | (simp; omega) | (simp [go_sem, *]; done)) [go_sem, World.cell?_setCell_far, World.cell?_alloc_past, *]; done))
  have e96 : W9.cell? ⟨w.heap.size + 1, 6, none⟩ = some (.int .i64 4) := by subst h9; (first | (simp [go_sem, *]; done) | (simp (disch := first | omega | (simp; omega) | (simp [go_sem, *]; done)) [go_sem, World.cell?_setCell_far, World.cell?_alloc_past, *]; done))
  have e97 : W9.cell? ⟨w.heap.size + 1, 7, none⟩ = some (.int .i64 q.time) := by subst h9; (first | (simp [go_sem, *]; done) | (simp (disch := first | omega | (simp; omega) | (simp [go_sem, *]; done)) [go_sem, World.cell?_setCell_far, World.cell?_alloc_past, *]; done))
  have b9 : Below w.heap.size w W9 := by subst h9; (repeat (first | with_reducible assumption | with_reducible exact Below.refl _ _ | with_reducible refine Below.setCell ?_ (by first | omega | (simp; done) | (simp; omega)) _ | with_reducible refine Below.alloc ?_ (by first | omega | (simp; done) | (simp; omega)) _ | with_reducible refine Below.drew ?_ | (with_reducible refine Below.trans ?_ (Below.mono (by with_reducible assumption) (by first | omega | (simp; done) | (simp; omega)))) | (refine Below.trans ?_ (Below.mono (by assumption) (by first | omega | (simp; done) | (simp; omega))))))
  clear h9
  refine bodyPost_ret (v := .agg #[.int .i64 1, .int .i64 q.group, .int .i64 2, .int .i64 q.ping, .int .i64 3, .int .i64 q.work, .int .i64 4, .int .i64 q.time]) (by simp [results, Try.results189, go_sem, e90, e91, e92, e93, e94, e95, e96, e97]) rfl ⟨?_, b9⟩
  rfl
set_option maxRecDepth 100000 in
theorem refQuota_any (q : Qu) (b : Nat) (w : World) : Calls Try.prog 124 #[.agg #[.int .i64 q.group, .int .i64 q.ping, .int .i64 q.work, .int .i64 q.time], .int .i64 b] w fun e w' => e = .returned (.int .i64 (quN q b)) ∧ Below w.heap.size w w' := by
  by_cases h1 : (b : Int) = 1
  · have e : quN q b = q.group := by unfold quN; rw [if_pos h1]
    rw [e, h1]
    go_enter Try.func124, Try.ntmps124
    go_wp2_with fail
    go_ret
    exact ⟨rfl, by (repeat (first | with_reducible assumption | with_reducible exact Below.refl _ _ | with_reducible refine Below.setCell ?_ (by first | omega | (simp; done) | (simp; omega)) _ | with_reducible refine Below.alloc ?_ (by first | omega | (simp; done) | (simp; omega)) _ | with_reducible refine Below.drew ?_ | (with_reducible refine Below.trans ?_ (Below.mono (by with_reducible assumption) (by first | omega | (simp; done) | (simp; omega)))) | (refine Below.trans ?_ (Below.mono (by assumption) (by first | omega | (simp; done) | (simp; omega))))))⟩
  have d1 : ((b : Int) == 1) = false := beq_eq_false_iff_ne.2 h1
  by_cases h2 : (b : Int) = 2
  · have e : quN q b = q.ping := by unfold quN; rw [if_neg h1, if_pos h2]
    rw [e, h2]
    clear d1 h1 h2
    go_enter Try.func124, Try.ntmps124
    go_wp2_with fail
    go_ret
    exact ⟨rfl, by (repeat (first | with_reducible assumption | with_reducible exact Below.refl _ _ | with_reducible refine Below.setCell ?_ (by first | omega | (simp; done) | (simp; omega)) _ | with_reducible refine Below.alloc ?_ (by first | omega | (simp; done) | (simp; omega)) _ | with_reducible refine Below.drew ?_ | (with_reducible refine Below.trans ?_ (Below.mono (by with_reducible assumption) (by first | omega | (simp; done) | (simp; omega)))) | (refine Below.trans ?_ (Below.mono (by assumption) (by first | omega | (simp; done) | (simp; omega))))))⟩
  have d2 : ((b : Int) == 2) = false := beq_eq_false_iff_ne.2 h2
  by_cases h3 : (b : Int) = 3
  · have e : quN q b = q.work := by unfold quN; rw [if_neg h1, if_neg h2, if_pos h3]
    rw [e, h3]
    clear d1 d2 h1 h2 h3
    go_enter Try.func124, Try.ntmps124
    go_wp2_with fail
    go_ret
    exact ⟨rfl, by (repeat (first | with_reducible assumption | with_reducible exact Below.refl _ _ | with_reducible refine Below.setCell ?_ (by first | omega | (simp; done) | (simp; omega)) _ | with_reducible refine Below.alloc ?_ (by first | omega | (simp; done) | (simp; omega)) _ | with_reducible refine Below.drew ?_ | (with_reducible refine Below.trans ?_ (Below.mono (by with_reducible assumption) (by first | omega | (simp; done) | (simp; omega)))) | (refine Below.trans ?_ (Below.mono (by assumption) (by first | omega | (simp; done) | (simp; omega))))))⟩
  have d3 : ((b : Int) == 3) = false := beq_eq_false_iff_ne.2 h3
  have e : quN q b = q.time := by unfold quN; rw [if_neg h1, if_neg h2, if_neg h3]
  rw [e]
  go_enter Try.func124, Try.ntmps124
  go_wp2_with fail
  go_ret
  exact ⟨rfl, by (repeat (first | with_reducible assumption | with_reducible exact Below.refl _ _ | with_reducible refine Below.setCell ?_ (by first | omega | (simp; done) | (simp; omega)) _ | with_reducible refine Below.alloc ?_ (by first | omega | (simp; done) | (simp; omega)) _ | with_reducible refine Below.drew ?_ | (with_reducible refine Below.trans ?_ (Below.mono (by with_reducible assumption) (by first | omega | (simp; done) | (simp; omega)))) | (refine Below.trans ?_ (Below.mono (by assumption) (by first | omega | (simp; done) | (simp; omega))))))⟩
end Go.Proofs.Ytppmjbnhghaffaa
/- The contracts of shield: pick, drop. Conditions: places are places. -/
namespace Go.Proofs.Ytppmjbnhghaffaa
open Go.RowKit

set_option maxRecDepth 100000 in
set_option maxHeartbeats 8000000 in
theorem sh_pick_any (v u : Value) (l : List Pe) (A : List Nat) (hA : ∀ i ∈ A, i < l.length) (w : World) (h : ReadsL peV 10 w v l) (hu : Reads w u A.length 1 (A.map natV)) (hn : A.length ≤ 1000000) :
    Calls Try.prog 192 #[v, u] w fun e w' => ∃ r, e = .returned r ∧ ReadsL peV 10 w' r (A.map (rkGet l)) ∧ Below w.heap.size w w' := by
  obtain ⟨hm, p, c, rfl, h3⟩ := pes_open h
  clear h
  obtain ⟨_, hm1, p1, c1, rfl, k1⟩ := hu.open
  clear hu
  obtain ⟨C, hC, hmk⟩ := run_make_cap peRow A.length (by omega) (by omega)
  go_enter Try.func192, Try.ntmps192
  go_upto_region 3 with fail
  clear hmk
  go_name_world W0 hW0
  have hO0 : W0.ownsRow w.heap.size 66 10 (.slice (some ⟨w.heap.size, 0, none⟩) 0 A.length) 0 [] := by subst hW0; exact World.ownsRow_made w C A.length (Nat.le_refl _) (by unfold maxLen; omega) hC
  have b0 : Below w.heap.size w W0 := by subst hW0; (repeat (first | with_reducible assumption | with_reducible exact Below.refl _ _ | with_reducible refine Below.setCell ?_ (by first | omega | (simp; done) | (simp; omega)) _ | with_reducible refine Below.alloc ?_ (by first | omega | (simp; done) | (simp; omega)) _ | with_reducible refine Below.drew ?_ | (with_reducible refine Below.trans ?_ (Below.mono (by with_reducible assumption) (by first | omega | (simp; done) | (simp; omega)))) | (refine Below.trans ?_ (Below.mono (by assumption) (by first | omega | (simp; done) | (simp; omega))))))
  have HO0 := Lib.hid hO0; have HB0 := Lib.hid b0
  clear hW0 hO0 b0 hC
  go_loopw [5, 13] (fun o' i' wr => ∃ k : Nat, k ≤ A.length ∧ i' = .int .i64 k ∧ Hid (wr.ownsRow w.heap.size 66 10 o' k (((A.take k).map (rkGet l)).flatMap peV)) ∧ Hid (Below w.heap.size w wr)) (fun _ i' _ => A.length - (intOf i').toNat)
  case atStart => exact ⟨0, by omega, rfl, HO0.out, HB0.out⟩
  case round =>
    obtain ⟨k, hk, rfl, HO, HB⟩ := hrel
    by_cases hlt : k < A.length
    · obtain ⟨i, hi⟩ : ∃ i, A[k]? = some i := ⟨_, List.getElem?_eq_getElem hlt⟩
      have hil : i < l.length := hA i (List.mem_of_getElem? hi)
      obtain ⟨p, hp⟩ : ∃ p, l[i]? = some p := ⟨_, List.getElem?_eq_getElem hil⟩
      obtain ⟨b, o, rfl, h4, h5, h6⟩ := h3 (by omega)
      obtain ⟨bx, ox, rfl, hcx, hbx, hxx⟩ := k1 (by omega)
      have g1 : wr.cell? ⟨bx, ox + k, none⟩ = some (.int .i64 i) := keep HB.out hbx (hxx k (natV i) (by rw [List.getElem?_map, hi]; rfl))
      have K := (h6 i p hp).below HB.out h5
      obtain ⟨k0, k1', k2, k3, k4, k5, k6, k7, k8, k9⟩ := K
      have q1 : (0 : Int) ≤ (k : Int) := by omega
      have q2 : (k : Int) < (A.length : Int) := by omega
      have q3 : (0 : Int) ≤ (i : Int) := by omega
      have q4 : (i : Int) < (l.length : Int) := by omega
      have HT : Hid (((A.take (k + 1)).map (rkGet l)).flatMap peV = ((A.take k).map (rkGet l)).flatMap peV ++ peV p) := by
        show _ = _
        rw [List.take_add_one, hi, Option.toList_some, List.map_append, List.flatMap_append, List.map_cons, List.map_nil, List.flatMap_cons, List.flatMap_nil, List.append_nil, rkGet_at hp]
      clear hi hp h6 hxx hil
      go_wp2_with (at_builtin; refine list_app_reads_g peRow rfl _ _ rfl w.heap.size _ k _ rfl (HO.out.alloc _) _ 1 (peV p) rfl (reads_one (us := peV p) rfl (Nat.succ_pos 9)) (peV_one1 p) (by omega) (by omega) (by have := HB.out.size; simp; omega) ?_; intro v' w7 hO7 hg7)
      go_roundw
      case rel => exact ⟨k + 1, by omega, by go_num, (by rw [HT.out]; exact hO7), below_grown (HO.out.alloc _) ((HB.out).alloc (HB.out.size) _) (Nat.le_refl _) (by have := HB.out.size; simp; omega) hg7⟩
      case measure => simp [intOf]; omega
    · obtain rfl : k = A.length := by omega
      have HR : Hid (∀ o', Hid (wr.ownsRow w.heap.size 66 10 o' A.length (((A.take A.length).map (rkGet l)).flatMap peV)) → ReadsL peV 10 wr o' (A.map (rkGet l))) := fun o' hO => by
        have := owns_reads hO.out
        rw [List.take_length] at this
        unfold ReadsL
        rw [List.length_map]; exact this
      go_wp2_with fail
      go_ret
      exact ⟨_, rfl, HR.out _ HO, HB.out⟩
theorem used_full (n : Nat) (O : List Nat) {i : Nat} (h : i < n) : (usedV n O)[i]? = some (.bool (decide (i ∈ O))) := usedV_get h
set_option maxRecDepth 100000 in
set_option maxHeartbeats 8000000 in
theorem sh_drop_any (v u : Value) (A G : List Nat) (hG : ∀ g ∈ G, g < A.length) (w : World) (h : Reads w v A.length 1 (A.map natV)) (hu : Reads w u G.length 1 (G.map natV)) (hn : A.length ≤ 1000000) (hn2 : G.length ≤ 1000000) :
    Calls Try.prog 190 #[v, u] w fun e w' => ∃ r, e = .returned r ∧ w'.ownsRow w.heap.size 3 1 r (dropL A G).length ((dropL A G).map natV) ∧ Below w.heap.size w w' := by
  obtain ⟨_, hm, p, c, rfl, h3⟩ := h.open
  clear h
  obtain ⟨_, hm1, p1, c1, rfl, k1⟩ := hu.open
  clear hu
  obtain ⟨C, hC, hmk⟩ := run_make_cap intRow A.length (by omega) (by omega)
  have hmk2 := fun W => run_make_bools A.length hn W
  go_enter Try.func190, Try.ntmps190
  go_upto_region 4 with fail
  clear hmk hmk2
  go_name_world W0 hW0
  have hO0 : W0.ownsRow w.heap.size 3 1 (.slice (some ⟨w.heap.size, 0, none⟩) 0 A.length) 0 [] := by subst hW0; exact (World.ownsRow_made w C A.length (Nat.le_refl _) (by unfold maxLen; omega) hC).alloc _
  have hU0 : BlockIs W0 (w.heap.size + 1) (usedV A.length []) 4 := by subst hW0; exact BlockIs.newAt' _ _ _ (by simp)
  have b0 : Below w.heap.size w W0 := by subst hW0; (repeat (first | with_reducible assumption | with_reducible exact Below.refl _ _ | with_reducible refine Below.setCell ?_ (by first | omega | (simp; done) | (simp; omega)) _ | with_reducible refine Below.alloc ?_ (by first | omega | (simp; done) | (simp; omega)) _ | with_reducible refine Below.drew ?_ | (with_reducible refine Below.trans ?_ (Below.mono (by with_reducible assumption) (by first | omega | (simp; done) | (simp; omega)))) | (refine Below.trans ?_ (Below.mono (by assumption) (by first | omega | (simp; done) | (simp; omega))))))
  obtain ⟨U, hU⟩ : ∃ U, U = w.heap.size + 1 := ⟨_, rfl⟩
  rw [← hU] at hU0
  rw [← hU]
  have HO0 := Lib.hid hO0; have HU0 := Lib.hid hU0; have HB00 := Lib.hid b0; have HUU := Lib.hid hU
  clear hW0 hO0 hU0 b0 hU hC
  go_loopw [19] (fun i' wr => ∃ k : Nat, k ≤ G.length ∧ i' = .int .i64 k ∧ Hid (wr.ownsRow w.heap.size 3 1 (.slice (some ⟨w.heap.size, 0, none⟩) 0 A.length) 0 []) ∧ Hid (BlockIs wr U (usedV A.length (G.take k)) 4) ∧ Hid (Below w.heap.size w wr)) (fun i' _ => G.length - (intOf i').toNat)
  case atStart => exact ⟨0, by omega, rfl, HO0.out, HU0.out, HB00.out⟩
  case round =>
    obtain ⟨k, hk, rfl, HO, HUk, HB⟩ := hrel
    by_cases hlt : k < G.length
    · obtain ⟨g, hg⟩ : ∃ g, G[k]? = some g := ⟨_, List.getElem?_eq_getElem hlt⟩
      have hgl : g < A.length := hG g (List.mem_of_getElem? hg)
      obtain ⟨bx, ox, rfl, hcx, hbx, hxx⟩ := k1 (by omega)
      have g1 : wr.cell? ⟨bx, ox + k, none⟩ = some (.int .i64 g) := keep HB.out hbx (hxx k (natV g) (by rw [List.getElem?_map, hg]; rfl))
      have q1 : (0 : Int) ≤ (k : Int) := by omega
      have q2 : (k : Int) < (G.length : Int) := by omega
      have q3 : (0 : Int) ≤ (g : Int) := by omega
      have q4 : (g : Int) < (A.length : Int) := by omega
      have hcu := HUk.out.cell (usedV_get (O := G.take k) hgl)
      have hfu := HUk.out.frozen g
      have hUl := HUk.out.lt
      have HGk := Lib.hid hg; have HGL := Lib.hid hgl
      clear hg hxx hgl
      go_upto_region 7 with fail
      go_name_world W5 hW5
      have hU5 : BlockIs W5 U (usedV A.length (G.take (k + 1))) 4 := by
        subst hW5; rw [List.take_add_one, HGk.out, Option.toList_some, ← usedV_set HGL.out]; exact HUk.out.set g _
      have hO5 := owns_set (i := g) (x := .bool true) HO.out HUk.out
      rw [hW5] at hO5
      have hB5 : Below w.heap.size w W5 := by subst hW5; exact HB.out.setCell (by show w.heap.size ≤ U; have := HUU.out; omega) _
      clear hW5 hcu hfu
      have HU5 := Lib.hid hU5; have HB5 := Lib.hid hB5; have HO5 := Lib.hid hO5
      clear hU5 hB5 hO5
      go_wp2_with fail
      go_roundw
      case rel => exact ⟨k + 1, by omega, by go_num, HO5.out, HU5.out, HB5.out⟩
      case measure => simp [intOf]; omega
    · obtain rfl : k = G.length := by omega
      have HU1 : Hid (BlockIs wr U (usedV A.length G) 4) := by
        have := HUk.out
        rwa [List.take_length] at this
      clear HUk
      go_wp2_with fail
      obtain ⟨wp, rfl⟩ : ∃ wp : World, wp = wr := ⟨_, rfl⟩
      go_loopw [5, 29] (fun o' i' wr => ∃ k : Nat, k ≤ A.length ∧ i' = .int .i64 k ∧ Hid (wr.ownsRow w.heap.size 3 1 o' (dropK A G k).length ((dropK A G k).map natV)) ∧ Hid (BlockIs wr U (usedV A.length G) 4) ∧ Hid (Below w.heap.size w wr)) (fun _ i' _ => A.length - (intOf i').toNat)
      case atStart => exact ⟨0, by omega, rfl, HO.out, HU1.out, HB.out⟩
      case round =>
        obtain ⟨k, hk, rfl, HOq, HUq, HBq⟩ := hrel
        by_cases hlt : k < A.length
        · obtain ⟨i, hi⟩ : ∃ i, A[k]? = some i := ⟨_, List.getElem?_eq_getElem hlt⟩
          obtain ⟨bx, ox, rfl, hcx, hbx, hxx⟩ := h3 (by omega)
          have g1 : wr.cell? ⟨bx, ox + k, none⟩ = some (.int .i64 i) := keep HBq.out hbx (hxx k (natV i) (by rw [List.getElem?_map, hi]; rfl))
          have q1 : (0 : Int) ≤ (k : Int) := by omega
          have q2 : (k : Int) < (A.length : Int) := by omega
          have hcu := HUq.out.cell (usedV_get (O := G) hlt)
          have HD := Lib.hid (dropK_succ (G := G) hi)
          have hdl : (dropK A G k).length ≤ k := by unfold dropK; rw [List.length_map]; exact Nat.le_trans (List.length_filter_le _ _) (by simp)
          clear hi hxx
          by_cases hin : k ∈ G
          · have HD2 : Hid (dropK A G (k + 1) = dropK A G k) := by show _ = _; rw [HD.out, if_pos hin, List.append_nil]
            have hde : decide (k ∈ G) = true := decide_eq_true hin
            rw [hde] at hcu
            clear hde hin
            go_wp2_with fail
            go_roundw
            case rel => exact ⟨k + 1, by omega, by go_num, by rw [HD2.out]; exact HOq.out, HUq.out, HBq.out⟩
            case measure => simp [intOf]; omega
          · have HD2 : Hid (dropK A G (k + 1) = dropK A G k ++ [i]) := by show _ = _; rw [HD.out, if_neg hin]
            have hde : decide (k ∈ G) = false := decide_eq_false hin
            rw [hde] at hcu
            clear hde hin
            go_wp2_with (at_builtin; refine list_app_reads_g intRow rfl _ _ rfl w.heap.size _ (dropK A G k).length ((dropK A G k).map natV) rfl (HOq.out.alloc _) _ 1 [natV i] rfl (reads_one (us := [natV i]) rfl (Nat.succ_pos 0)) (natV_one i) (by omega) (by omega) (by have := HBq.out.size; simp; omega) ?_; intro v' w7 hO7 hg7)
            go_roundw
            case rel => exact ⟨k + 1, by omega, by go_num, (by rw [HD2.out]; have := hO7; simp only [List.length_append, List.length_singleton, List.map_append, List.map_cons, List.map_nil]; exact this), blk_grown ((HUq.out).alloc' _) hg7 (owns_ne HOq.out HUq.out), below_grown (HOq.out.alloc _) ((HBq.out).alloc (HBq.out.size) _) (Nat.le_refl _) (by have := HBq.out.size; simp; omega) hg7⟩
            case measure => simp [intOf]; omega
        · obtain rfl : k = A.length := by omega
          go_wp2_with fail
          go_ret
          exact ⟨_, rfl, HOq.out, HBq.out⟩
end Go.Proofs.Ytppmjbnhghaffaa
/- The contracts of shield.Left and shield.Saved. Conditions: numbers are 64 bits. -/
namespace Go.Proofs.Ytppmjbnhghaffaa
open Go.RowKit
set_option linter.unusedSimpArgs false
set_option linter.unusedVariables false

def Qu.fits (q : Qu) : Prop := (-9223372036854775808 ≤ q.group ∧ q.group ≤ 9223372036854775807) ∧ (-9223372036854775808 ≤ q.ping ∧ q.ping ≤ 9223372036854775807) ∧ (-9223372036854775808 ≤ q.work ∧ q.work ≤ 9223372036854775807) ∧ (-9223372036854775808 ≤ q.time ∧ q.time ≤ 9223372036854775807)
/-- who is protected behind so many orders -/
def svO (l : List Pe) (q : Qu) (s : Nat) : Nat → List Nat
  | 0 => []
  | b + 1 => svStep l.length (rkLt l (b + 1 : Nat) s) (fun i => rkCounts (rkGet l i) (b + 1 : Nat)) (quN q (b + 1 : Nat)).toNat (svO l q s b)
def lfL (l : List Pe) (q : Qu) (s : Nat) (b : Nat) : List Nat := leftOf (List.range l.length) (svO l q s b)
theorem svO_nodup (l : List Pe) (q : Qu) (s : Nat) : ∀ b, (svO l q s b).Nodup
  | 0 => List.nodup_nil
  | b + 1 => svStep_nodup (svO_nodup l q s b)
theorem svO_lt (l : List Pe) (q : Qu) (s : Nat) : ∀ b, ∀ i ∈ svO l q s b, i < l.length
  | 0 => by intro i hi; cases hi
  | b + 1 => svStep_lt (svO_lt l q s b)
theorem lfL_nodup (l : List Pe) (q : Qu) (s b : Nat) : (lfL l q s b).Nodup := List.nodup_range.filter _
theorem lfL_lt {l : List Pe} {q : Qu} {s b i : Nat} (h : i ∈ lfL l q s b) : i < l.length := List.mem_range.1 (left_mem.1 h).1
theorem lfL_len (l : List Pe) (q : Qu) (s b : Nat) : (lfL l q s b).length ≤ l.length := by
  have := List.length_filter_le (fun i => decide (i ∉ svO l q s b)) (List.range l.length)
  rw [List.length_range] at this; exact this
theorem lfL_zero (l : List Pe) (q : Qu) (s : Nat) : lfL l q s 0 = List.range l.length := by
  unfold lfL svO leftOf; exact List.filter_eq_self.2 fun _ _ => by simp
theorem rkGet_map (l : List Pe) (A : List Nat) (x : Nat) : rkGet (A.map (rkGet l)) x = rkGet l (atF l.length A x) := by
  unfold atF
  conv => lhs; unfold rkGet
  rw [List.getElem?_map]
  cases h : A[x]? with
  | none => simp [rkGet]
  | some i => simp [rkGet]
theorem first_atF (l : List Pe) (A : List Nat) (q n : Int) (s : Nat) : (rkFirst (A.map (rkGet l)) q n s).map (atF l.length A) = (ssort (rkLt l q s) (A.filter fun i => rkCounts (rkGet l i) q)).take n.toNat := by
  unfold rkFirst
  rw [List.map_take, ssort_map (atF l.length A) (rkLt (A.map (rkGet l)) q s) (rkLt l q s) (fun x y => by unfold rkLt; rw [rkGet_map, rkGet_map])]
  congr 2
  unfold rkIdx
  conv => rhs; rw [← range_atF l.length A]
  rw [List.filter_map, List.length_map]
  congr 1
  exact List.filter_congr fun x _ => by rw [rkGet_map]; rfl
theorem first_in {l : List Pe} {q n : Int} {s i : Nat} (h : i ∈ rkFirst l q n s) : i < l.length := rkIdx_lt ((ssort_mem _).1 (List.mem_of_mem_take h))
theorem lf_step (l : List Pe) (q : Qu) (s b : Nat) : dropL (lfL l q s b) (rkFirst ((lfL l q s b).map (rkGet l)) (b + 1 : Nat) (quN q (b + 1 : Nat)) s) = lfL l q s (b + 1) := by
  rw [dropL_is (big := l.length) (lfL_nodup l q s b) (fun g hg => by have := first_in hg; rwa [List.length_map] at this), first_atF]
  exact left_step
theorem first_len (l : List Pe) (q n : Int) (s : Nat) : (rkFirst l q n s).length ≤ l.length := by
  unfold rkFirst
  rw [List.length_take, ssort_len]
  unfold rkIdx
  have := List.length_filter_le (fun i => rkCounts (rkGet l i) q) (List.range l.length)
  rw [List.length_range] at this
  omega
def idV (n k : Nat) : List Value := (List.range n).map fun i => natV (if i < k then i else 0)
theorem idV_len (n k : Nat) : (idV n k).length = n := by simp [idV]
theorem idV_get {n k i : Nat} (h : i < n) : (idV n k)[i]? = some (natV (if i < k then i else 0)) := by unfold idV; rw [List.getElem?_map, List.getElem?_range h]; rfl
theorem idV_set {n k : Nat} (h : k < n) : (idV n k).set k (natV k) = idV n (k + 1) := by
  apply List.ext_getElem?
  intro i
  by_cases hi : i < n
  · rw [List.getElem?_set, idV_len, idV_get hi]
    by_cases e : k = i
    · subst e
      rw [if_pos rfl, if_pos h, idV_get h, if_pos (by omega)]
    · rw [if_neg e, idV_get hi]
      congr 2
      by_cases h1 : i < k
      · rw [if_pos h1, if_pos (by omega)]
      · rw [if_neg h1, if_neg (by omega)]
  · rw [List.getElem?_eq_none (by simp [idV_len]; omega), List.getElem?_eq_none (by simp [idV_len]; omega)]
theorem idV_full (n : Nat) : idV n n = (List.range n).map natV := by
  unfold idV
  refine List.map_congr_left fun i hi => ?_
  rw [if_pos (List.mem_range.1 hi)]
theorem run_make_idV (n : Nat) (hn : n ≤ 1000000) (W : World) : (Instr.makeSlice 72 (.int .i64 n) (.int .i64 n)).run Try.prog W = .ok (.slice (some ⟨W.heap.size, 0, none⟩) n n) (W.alloc (.cells (idV n 0).toArray 3)) := by
  obtain ⟨i, hi, hz0, hz1, hz2⟩ := info_parts (show (Try.prog.info? 3).map (fun i => (i.zero, i.size, i.bytes)) = some (some (.int .i64 0), 1, 8) by kernel_rfl)
  have := run_make (P := Try.prog) W 72 3 i (.int .i64 0) Try.underlying72 hi hz0 .i64 .i64 n n (by omega) (by omega) (by rw [hz2]; omega) (by omega)
  have e1 : ((n : Nat) : Int).toNat = n := by omega
  have e2 : madeCells (Value.int .i64 0).cells (n * 1) = (idV n 0).toArray := by
    apply Array.ext
    · simp [size_madeCells, idV_len]
    · intro j h1 h2
      simp [madeCells, idV, natV, Value.cells, Nat.mod_one]
  rw [this, e1, hz1, e2]
theorem reads_nats {w : World} {B n : Nat} {T : TypeId} {L : List Nat} (hB : BlockIs w B (L.map natV) T) (hn : L.length = n) (hm : n ≤ 1000000) : Reads w (.slice (some ⟨B, 0, none⟩) n n) n 1 (L.map natV) := by
  refine ⟨by rw [List.length_map]; omega, by omega, ?_⟩
  rcases Nat.eq_zero_or_pos n with h0 | h0
  · exact Or.inl ⟨h0, _, _, by rw [h0]⟩
  · exact Or.inr ⟨h0, B, 0, n, rfl, Nat.le_refl _, hB.lt, fun j x hj => by rw [Nat.zero_add]; exact hB.cell hj⟩
theorem BlockIs.belowAt {w w' : World} {B n : Nat} {arr : List Value} {T : TypeId} (h : BlockIs w B arr T) (hb : Below n w w') (hlt : B < n) : BlockIs w' B arr T := by
  have := hb.block B hlt; unfold BlockIs at *; rw [this]; exact h
theorem owns_nats {w : World} {B n base : Nat} {T : TypeId} {L : List Nat} (hB : BlockIs w B (L.map natV) T) (hn : L.length = n) (hm : n ≤ 1000000) (hb : base ≤ B) : w.ownsRow base T 1 (.slice (some ⟨B, 0, none⟩) n n) n (L.map natV) := by
  refine ⟨by rw [List.length_map]; omega, Or.inr ⟨B, n, (L.map natV).toArray, rfl, hb, hB, Nat.le_refl _, by unfold maxLen; omega, by simp [hn], by rw [List.take_of_length_le (by simp; omega)]⟩⟩
set_option maxRecDepth 100000 in
set_option maxHeartbeats 16000000 in
theorem sh_left_any (v : Value) (l : List Pe) (hl : ∀ x ∈ l, x.fits) (q : Qu) (hq : q.fits) (s : Nat) (hs : s < 18446744073709551616) (w : World) (h : ReadsL peV 10 w v l) (hn : l.length ≤ 1000000) :
    Calls Try.prog 175 #[v, .agg #[.int .i64 q.group, .int .i64 q.ping, .int .i64 q.work, .int .i64 q.time], .int .u64 s] w fun e w' => ∃ r, e = .returned r ∧ w'.ownsRow w.heap.size 3 1 r (lfL l q s 4).length ((lfL l q s 4).map natV) ∧ Below w.heap.size w w' := by
  have h0 := Lib.hid h
  obtain ⟨hm, p, c, rfl, h3⟩ := pes_open h
  clear h h3
  have hmk := fun W => run_make_idV l.length hn W
  have HT := Lib.hid (fun w => turns_any q w)
  go_enter Try.func175, Try.ntmps175
  go_upto_region 3 with fail
  clear hmk
  go_name_world W0 hW0
  have hA0 : BlockIs W0 (w.heap.size + 1) (idV l.length 0) 3 := by subst hW0; exact BlockIs.newAt' _ _ _ (by simp)
  have d0 : W0.cell? ⟨w.heap.size, 0, none⟩ = some (.int .i64 q.group) := by subst hW0; (first | (simp [go_sem, *]; done) | (simp (disch := first | omega | (simp; omega) | (simp [go_sem, *]; done)) [go_sem, World.cell?_setCell_far, World.cell?_alloc_past, World.frozen?_alloc_past, *]; done))
  have d1 : W0.cell? ⟨w.heap.size, 1, none⟩ = some (.int .i64 q.ping) := by subst hW0; (first | (simp [go_sem, *]; done) | (simp (disch := first | omega | (simp; omega) | (simp [go_sem, *]; done)) [go_sem, World.cell?_setCell_far, World.cell?_alloc_past, World.frozen?_alloc_past, *]; done))
  have d2 : W0.cell? ⟨w.heap.size, 2, none⟩ = some (.int .i64 q.work) := by subst hW0; (first | (simp [go_sem, *]; done) | (simp (disch := first | omega | (simp; omega) | (simp [go_sem, *]; done)) [go_sem, World.cell?_setCell_far, World.cell?_alloc_past, World.frozen?_alloc_past, *]; done))
  have d3 : W0.cell? ⟨w.heap.size, 3, none⟩ = some (.int .i64 q.time) := by subst hW0; (first | (simp [go_sem, *]; done) | (simp (disch := first | omega | (simp; omega) | (simp [go_sem, *]; done)) [go_sem, World.cell?_setCell_far, World.cell?_alloc_past, World.frozen?_alloc_past, *]; done))
  have b0 : Below w.heap.size w W0 := by subst hW0; (repeat (first | with_reducible assumption | with_reducible exact Below.refl _ _ | with_reducible refine Below.setCell ?_ (by first | omega | (simp; done) | (simp; omega)) _ | with_reducible refine Below.alloc ?_ (by first | omega | (simp; done) | (simp; omega)) _ | with_reducible refine Below.drew ?_ | (with_reducible refine Below.trans ?_ (Below.mono (by with_reducible assumption) (by first | omega | (simp; done) | (simp; omega)))) | (refine Below.trans ?_ (Below.mono (by assumption) (by first | omega | (simp; done) | (simp; omega))))))
  have z0 : w.heap.size + 2 ≤ W0.heap.size := by subst hW0; simp
  obtain ⟨U, hU⟩ : ∃ U, U = w.heap.size + 1 := ⟨_, rfl⟩
  rw [← hU] at hA0
  rw [← hU]
  have HA0 := Lib.hid hA0; have HB0 := Lib.hid b0; have HUU := Lib.hid hU; have HZ := Lib.hid z0
  have HD0 := Lib.hid d0; have HD1 := Lib.hid d1; have HD2 := Lib.hid d2; have HD3 := Lib.hid d3
  clear hW0 hA0 b0 hU z0 d0 d1 d2 d3
  go_loopw [16] (fun i' wr => ∃ k : Nat, k ≤ l.length ∧ i' = .int .i64 k ∧ Hid (BlockIs wr U (idV l.length k) 3) ∧ Hid (Below U W0 wr)) (fun i' _ => l.length - (intOf i').toNat)
  case atStart => exact ⟨0, by omega, rfl, HA0.out, Below.refl _ _⟩
  case round =>
    obtain ⟨k, hk, rfl, HAk, HB⟩ := hrel
    by_cases hlt : k < l.length
    · have q1 : (0 : Int) ≤ (k : Int) := by omega
      have q2 : (k : Int) < (l.length : Int) := by omega
      have hcu := HAk.out.cell (idV_get (k := k) hlt)
      have hfu := HAk.out.frozen k
      have hUl := HAk.out.lt
      go_upto_region 6 with fail
      go_name_world W5 hW5
      have hA5 : BlockIs W5 U (idV l.length (k + 1)) 3 := by subst hW5; rw [← idV_set hlt]; exact HAk.out.set k _
      have hB5 : Below U W0 W5 := by subst hW5; exact HB.out.setCell (Nat.le_refl _) _
      clear hW5 hcu hfu
      have HA5 := Lib.hid hA5; have HB5 := Lib.hid hB5
      clear hA5 hB5
      go_wp2_with fail
      go_roundw
      case rel => exact ⟨k + 1, by omega, by go_num, HA5.out, HB5.out⟩
      case measure => simp [intOf]; omega
    · obtain rfl : k = l.length := by omega
      have hUl := HAk.out.lt
      have HBw : Hid (Below w.heap.size w wr) := HB0.out.trans (HB.out.mono (by have := HUU.out; omega))
      have HR0 : Hid (wr.ownsRow w.heap.size 3 1 (.slice (some ⟨U, 0, none⟩) l.length l.length) (lfL l q s 0).length ((lfL l q s 0).map natV)) := by
        have := HAk.out
        rw [idV_full] at this
        rw [lfL_zero, List.length_range]
        exact owns_nats this (by simp) hn (by have := HUU.out; omega)
      have e0 := keep HB.out (show w.heap.size < U by have := HUU.out; omega) HD0.out
      have e1 := keep HB.out (show w.heap.size < U by have := HUU.out; omega) HD1.out
      have e2 := keep HB.out (show w.heap.size < U by have := HUU.out; omega) HD2.out
      have e3 := keep HB.out (show w.heap.size < U by have := HUU.out; omega) HD3.out
      go_upto_region 8 with (go_at_call 189; (with_reducible refine (HT.out _).mono ?_); rintro e w4 ⟨rfl, b4⟩)
      have HB4 := Lib.hid (below2 HBw.out b4)
      have HR4 := Lib.hid (owns_below HR0.out b4)
      clear e0 e1 e2 e3 b4
      obtain ⟨wp, rfl⟩ : ∃ wp : World, wp = wr := ⟨_, rfl⟩
      go_loopw [7, 26] (fun a' i' wr => ∃ k : Nat, k ≤ 4 ∧ i' = .int .i64 k ∧ Hid (wr.ownsRow w.heap.size 3 1 a' (lfL l q s k).length ((lfL l q s k).map natV)) ∧ Hid (Below w.heap.size w wr)) (fun _ i' _ => 4 - (intOf i').toNat)
      case atStart => exact ⟨0, by omega, rfl, HR4.out, HB4.out⟩
      case round =>
        obtain ⟨k, hk, rfl, HRk, HBk⟩ := hrel
        rcases (show k = 4 ∨ k = 0 ∨ k = 1 ∨ k = 2 ∨ k = 3 by omega) with rfl | rfl | rfl | rfl | rfl
        · go_wp2_with fail
          go_ret
          exact ⟨_, rfl, HRk.out, HBk.out⟩
        · simp only [show ((0 : Nat) : Int) = 0 from rfl]
          have hix := fun (W : World) => (show (Instr.index 187 (.agg #[.int .i64 1, .int .i64 q.group, .int .i64 2, .int .i64 q.ping, .int .i64 3, .int .i64 q.work, .int .i64 4, .int .i64 q.time]) (.int .i64 0)).run Try.prog W = .ok (.agg #[.int .i64 1, .int .i64 q.group]) W by kernel_rfl)
          go_upto_region 10 with fail
          clear hix
          go_name_world WW6 hWW6
          have e60 : WW6.cell? ⟨wr.heap.size, 0, none⟩ = some (.int .i64 1) := by subst hWW6; (first | (simp (disch := first | omega | (simp; omega)) [World.cell?_alloc_past, World.frozen?_alloc_past, *]; done) | (simp (disch := first | omega | (simp; omega)) [World.cell?_setCell_far, World.cell?_alloc_past, *]; done) | (simp (disch := first | omega | (simp; omega)) [World.cell?_alloc_past, World.frozen?_alloc_past, *]; rfl) | (simp (disch := first | omega | (simp; omega)) [World.cell?_setCell_far, World.cell?_alloc_past, *]; rfl) | (simp [go_sem, *]; done) | (simp (disch := first | omega | (simp; omega) | (simp [go_sem, *]; done)) [go_sem, World.cell?_setCell_far, World.cell?_alloc_past, World.frozen?_alloc_past, *]; done))
          have e61 : WW6.cell? ⟨wr.heap.size, 1, none⟩ = some (.int .i64 q.group) := by subst hWW6; (first | (simp (disch := first | omega | (simp; omega)) [World.cell?_alloc_past, World.frozen?_alloc_past, *]; done) | (simp (disch := first | omega | (simp; omega)) [World.cell?_setCell_far, World.cell?_alloc_past, *]; done) | (simp (disch := first | omega | (simp; omega)) [World.cell?_alloc_past, World.frozen?_alloc_past, *]; rfl) | (simp (disch := first | omega | (simp; omega)) [World.cell?_setCell_far, World.cell?_alloc_past, *]; rfl) | (simp [go_sem, *]; done) | (simp (disch := first | omega | (simp; omega) | (simp [go_sem, *]; done)) [go_sem, World.cell?_setCell_far, World.cell?_alloc_past, World.frozen?_alloc_past, *]; done))
          have bw6 : Below wr.heap.size wr WW6 := by subst hWW6; (repeat (first | assumption | exact Below.refl _ _ | refine Below.setCell ?_ (by first | omega | (simp; done) | (simp; omega)) _ | refine Below.alloc ?_ (by first | omega | (simp; done) | (simp; omega)) _ | refine Below.drew ?_ | (refine Below.trans ?_ (Below.mono (by assumption) (by first | omega | (simp; done) | (simp; omega))))))
          have zw6 : _ := bw6.size
          have lW60 : wr.heap.size < WW6.heap.size := by subst hWW6; first | omega | (simp; done) | (simp; omega)
          clear hWW6
          have hRW : ReadsL peV 10 WW6 (.slice p l.length c) l := Reads.below h0.out (below2 HBk.out bw6)
          have hRA := Reads.below (owns_reads HRk.out) bw6
          have HBW := Lib.hid (below2 HBk.out bw6)
          have hAl : (lfL l q s 0).length ≤ 1000000 := Nat.le_trans (lfL_len l q s 0) hn
          have hPl : ∀ x ∈ (lfL l q s 0).map (rkGet l), x.fits := fun x hx => by
            obtain ⟨i, hi, rfl⟩ := List.mem_map.1 hx
            have hil := lfL_lt hi
            rw [rkGet_at (List.getElem?_eq_getElem hil)]
            exact hl _ (List.getElem_mem _)
          have HP := Lib.hid (fun W (hW : Below WW6.heap.size WW6 W) => sh_pick_any _ _ l (lfL l q s 0) (fun i hi => lfL_lt hi) W (Reads.below hRW hW) (Reads.below hRA hW) hAl)
          have HF := Lib.hid (fun r W (hW : ReadsL peV 10 W r ((lfL l q s 0).map (rkGet l))) => rk_first_any r _ hPl 1 q.group hq.1 s hs W hW (by rw [List.length_map]; exact hAl))
          have HS : Hid (dropL (lfL l q s 0) (rkFirst ((lfL l q s 0).map (rkGet l)) 1 q.group s) = lfL l q s 1) := lf_step l q s 0
          have HD := Lib.hid (fun r W (hW : Below WW6.heap.size WW6 W) (hr : Reads W r _ 1 ((rkFirst ((lfL l q s 0).map (rkGet l)) 1 q.group s).map natV)) => sh_drop_any _ r (lfL l q s 0) _ (fun g hg => by have := first_in hg; rwa [List.length_map] at this) W (Reads.below hRA hW) hr hAl (Nat.le_trans (first_len _ _ _ _) (by rw [List.length_map]; exact hAl)))
          clear hRW hRA hAl hPl
          go_region_held3 (fun w' => w'.cell? ⟨wr.heap.size, 0, none⟩ = some (.int .i64 1) ∧ w'.cell? ⟨wr.heap.size, 1, none⟩ = some (.int .i64 q.group)) (first | go_keep | (simp (disch := omega) [*])) (first | (go_at_call 192; (with_reducible refine (HP.out _ (by (repeat (first | with_reducible assumption | with_reducible exact Below.refl _ _ | with_reducible refine Below.setCell ?_ (by first | omega | (simp; done) | (simp; omega)) _ | with_reducible refine Below.alloc ?_ (by first | omega | (simp; done) | (simp; omega)) _ | with_reducible refine Below.drew ?_ | (with_reducible refine Below.trans ?_ (Below.mono (by with_reducible assumption) (by first | omega | (simp; done) | (simp; omega)))) | (refine Below.trans ?_ (Below.mono (by assumption) (by first | omega | (simp; done) | (simp; omega)))))))).mono ?_); rintro e w3 ⟨r1, rfl, o3, b3⟩; have z3 := b3.size; (try simp at z3); have d3 := fun o => (bcell b3).1 wr.heap.size o (by first | omega | (simp; done) | (simp; omega))) | (go_at_call 191; (with_reducible refine (HF.out _ _ (ReadsL.below o3 (by (repeat (first | with_reducible assumption | with_reducible exact Below.refl _ _ | with_reducible refine Below.setCell ?_ (by first | omega | (simp; done) | (simp; omega)) _ | with_reducible refine Below.alloc ?_ (by first | omega | (simp; done) | (simp; omega)) _ | with_reducible refine Below.drew ?_ | (with_reducible refine Below.trans ?_ (Below.mono (by with_reducible assumption) (by first | omega | (simp; done) | (simp; omega)))) | (refine Below.trans ?_ (Below.mono (by assumption) (by first | omega | (simp; done) | (simp; omega))))))))).mono ?_); rintro e w5 ⟨r2, rfl, o5, b5⟩; have z5 := b5.size; (try simp at z5); have d5 := fun o => (bcell b5).1 wr.heap.size o (by first | omega | (simp; done) | (simp; omega))) | (go_at_call 190; (with_reducible refine (HD.out _ _ (by (repeat (first | with_reducible assumption | with_reducible exact Below.refl _ _ | with_reducible refine Below.setCell ?_ (by first | omega | (simp; done) | (simp; omega)) _ | with_reducible refine Below.alloc ?_ (by first | omega | (simp; done) | (simp; omega)) _ | with_reducible refine Below.drew ?_ | (with_reducible refine Below.trans ?_ (Below.mono (by with_reducible assumption) (by first | omega | (simp; done) | (simp; omega)))) | (refine Below.trans ?_ (Below.mono (by assumption) (by first | omega | (simp; done) | (simp; omega))))))) (Reads.below o5 (by (repeat (first | with_reducible assumption | with_reducible exact Below.refl _ _ | with_reducible refine Below.setCell ?_ (by first | omega | (simp; done) | (simp; omega)) _ | with_reducible refine Below.alloc ?_ (by first | omega | (simp; done) | (simp; omega)) _ | with_reducible refine Below.drew ?_ | (with_reducible refine Below.trans ?_ (Below.mono (by with_reducible assumption) (by first | omega | (simp; done) | (simp; omega)))) | (refine Below.trans ?_ (Below.mono (by assumption) (by first | omega | (simp; done) | (simp; omega))))))))).mono ?_); rintro e w6 ⟨r3, rfl, o6, b6⟩; have z6 := b6.size; (try simp at z6); have d6 := fun o => (bcell b6).1 wr.heap.size o (by first | omega | (simp; done) | (simp; omega))))
          have b7 : Below WW6.heap.size WW6 w6 := by (repeat (first | with_reducible assumption | with_reducible exact Below.refl _ _ | with_reducible refine Below.setCell ?_ (by first | omega | (simp; done) | (simp; omega)) _ | with_reducible refine Below.alloc ?_ (by first | omega | (simp; done) | (simp; omega)) _ | with_reducible refine Below.drew ?_ | (with_reducible refine Below.trans ?_ (Below.mono (by with_reducible assumption) (by first | omega | (simp; done) | (simp; omega)))) | (refine Below.trans ?_ (Below.mono (by assumption) (by first | omega | (simp; done) | (simp; omega))))))
          have HB7 := Lib.hid (below2 HBW.out b7)
          rw [HS.out] at o6
          have HO6 := Lib.hid (owns_base o6 (by have := HBW.out.size; have := b3.size; have := b5.size; simp at *; omega : w.heap.size ≤ _))
          clear o3 o5 o6 b3 b5 b6 b7 d3 d5 d6
          go_wp2_with fail
          go_roundw
          case rel => exact ⟨1, by omega, by go_num, HO6.out, HB7.out⟩
          case measure => simp [intOf]
        · simp only [show ((1 : Nat) : Int) = 1 from rfl]
          have hix := fun (W : World) => (show (Instr.index 187 (.agg #[.int .i64 1, .int .i64 q.group, .int .i64 2, .int .i64 q.ping, .int .i64 3, .int .i64 q.work, .int .i64 4, .int .i64 q.time]) (.int .i64 1)).run Try.prog W = .ok (.agg #[.int .i64 2, .int .i64 q.ping]) W by kernel_rfl)
          go_upto_region 10 with fail
          clear hix
          go_name_world WW6 hWW6
          have e60 : WW6.cell? ⟨wr.heap.size, 0, none⟩ = some (.int .i64 2) := by subst hWW6; (first | (simp (disch := first | omega | (simp; omega)) [World.cell?_alloc_past, World.frozen?_alloc_past, *]; done) | (simp (disch := first | omega | (simp; omega)) [World.cell?_setCell_far, World.cell?_alloc_past, *]; done) | (simp (disch := first | omega | (simp; omega)) [World.cell?_alloc_past, World.frozen?_alloc_past, *]; rfl) | (simp (disch := first | omega | (simp; omega)) [World.cell?_setCell_far, World.cell?_alloc_past, *]; rfl) | (simp [go_sem, *]; done) | (simp (disch := first | omega | (simp; omega) | (simp [go_sem, *]; done)) [go_sem, World.cell?_setCell_far, World.cell?_alloc_past, World.frozen?_alloc_past, *]; done))
          have e61 : WW6.cell? ⟨wr.heap.size, 1, none⟩ = some (.int .i64 q.ping) := by subst hWW6; (first | (simp (disch := first | omega | (simp; omega)) [World.cell?_alloc_past, World.frozen?_alloc_past, *]; done) | (simp (disch := first | omega | (simp; omega)) [World.cell?_setCell_far, World.cell?_alloc_past, *]; done) | (simp (disch := first | omega | (simp; omega)) [World.cell?_alloc_past, World.frozen?_alloc_past, *]; rfl) | (simp (disch := first | omega | (simp; omega)) [World.cell?_setCell_far, World.cell?_alloc_past, *]; rfl) | (simp [go_sem, *]; done) | (simp (disch := first | omega | (simp; omega) | (simp [go_sem, *]; done)) [go_sem, World.cell?_setCell_far, World.cell?_alloc_past, World.frozen?_alloc_past, *]; done))
          have bw6 : Below wr.heap.size wr WW6 := by subst hWW6; (repeat (first | assumption | exact Below.refl _ _ | refine Below.setCell ?_ (by first | omega | (simp; done) | (simp; omega)) _ | refine Below.alloc ?_ (by first | omega | (simp; done) | (simp; omega)) _ | refine Below.drew ?_ | (refine Below.trans ?_ (Below.mono (by assumption) (by first | omega | (simp; done) | (simp; omega))))))
          have zw6 : _ := bw6.size
          have lW60 : wr.heap.size < WW6.heap.size := by subst hWW6; first | omega | (simp; done) | (simp; omega)
          clear hWW6
          have hRW : ReadsL peV 10 WW6 (.slice p l.length c) l := Reads.below h0.out (below2 HBk.out bw6)
          have hRA := Reads.below (owns_reads HRk.out) bw6
          have HBW := Lib.hid (below2 HBk.out bw6)
          have hAl : (lfL l q s 1).length ≤ 1000000 := Nat.le_trans (lfL_len l q s 1) hn
          have hPl : ∀ x ∈ (lfL l q s 1).map (rkGet l), x.fits := fun x hx => by
            obtain ⟨i, hi, rfl⟩ := List.mem_map.1 hx
            have hil := lfL_lt hi
            rw [rkGet_at (List.getElem?_eq_getElem hil)]
            exact hl _ (List.getElem_mem _)
          have HP := Lib.hid (fun W (hW : Below WW6.heap.size WW6 W) => sh_pick_any _ _ l (lfL l q s 1) (fun i hi => lfL_lt hi) W (Reads.below hRW hW) (Reads.below hRA hW) hAl)
          have HF := Lib.hid (fun r W (hW : ReadsL peV 10 W r ((lfL l q s 1).map (rkGet l))) => rk_first_any r _ hPl 2 q.ping hq.2.1 s hs W hW (by rw [List.length_map]; exact hAl))
          have HS : Hid (dropL (lfL l q s 1) (rkFirst ((lfL l q s 1).map (rkGet l)) 2 q.ping s) = lfL l q s 2) := lf_step l q s 1
          have HD := Lib.hid (fun r W (hW : Below WW6.heap.size WW6 W) (hr : Reads W r _ 1 ((rkFirst ((lfL l q s 1).map (rkGet l)) 2 q.ping s).map natV)) => sh_drop_any _ r (lfL l q s 1) _ (fun g hg => by have := first_in hg; rwa [List.length_map] at this) W (Reads.below hRA hW) hr hAl (Nat.le_trans (first_len _ _ _ _) (by rw [List.length_map]; exact hAl)))
          clear hRW hRA hAl hPl
          go_region_held3 (fun w' => w'.cell? ⟨wr.heap.size, 0, none⟩ = some (.int .i64 2) ∧ w'.cell? ⟨wr.heap.size, 1, none⟩ = some (.int .i64 q.ping)) (first | go_keep | (simp (disch := omega) [*])) (first | (go_at_call 192; (with_reducible refine (HP.out _ (by (repeat (first | with_reducible assumption | with_reducible exact Below.refl _ _ | with_reducible refine Below.setCell ?_ (by first | omega | (simp; done) | (simp; omega)) _ | with_reducible refine Below.alloc ?_ (by first | omega | (simp; done) | (simp; omega)) _ | with_reducible refine Below.drew ?_ | (with_reducible refine Below.trans ?_ (Below.mono (by with_reducible assumption) (by first | omega | (simp; done) | (simp; omega)))) | (refine Below.trans ?_ (Below.mono (by assumption) (by first | omega | (simp; done) | (simp; omega)))))))).mono ?_); rintro e w3 ⟨r1, rfl, o3, b3⟩; have z3 := b3.size; (try simp at z3); have d3 := fun o => (bcell b3).1 wr.heap.size o (by first | omega | (simp; done) | (simp; omega))) | (go_at_call 191; (with_reducible refine (HF.out _ _ (ReadsL.below o3 (by (repeat (first | with_reducible assumption | with_reducible exact Below.refl _ _ | with_reducible refine Below.setCell ?_ (by first | omega | (simp; done) | (simp; omega)) _ | with_reducible refine Below.alloc ?_ (by first | omega | (simp; done) | (simp; omega)) _ | with_reducible refine Below.drew ?_ | (with_reducible refine Below.trans ?_ (Below.mono (by with_reducible assumption) (by first | omega | (simp; done) | (simp; omega)))) | (refine Below.trans ?_ (Below.mono (by assumption) (by first | omega | (simp; done) | (simp; omega))))))))).mono ?_); rintro e w5 ⟨r2, rfl, o5, b5⟩; have z5 := b5.size; (try simp at z5); have d5 := fun o => (bcell b5).1 wr.heap.size o (by first | omega | (simp; done) | (simp; omega))) | (go_at_call 190; (with_reducible refine (HD.out _ _ (by (repeat (first | with_reducible assumption | with_reducible exact Below.refl _ _ | with_reducible refine Below.setCell ?_ (by first | omega | (simp; done) | (simp; omega)) _ | with_reducible refine Below.alloc ?_ (by first | omega | (simp; done) | (simp; omega)) _ | with_reducible refine Below.drew ?_ | (with_reducible refine Below.trans ?_ (Below.mono (by with_reducible assumption) (by first | omega | (simp; done) | (simp; omega)))) | (refine Below.trans ?_ (Below.mono (by assumption) (by first | omega | (simp; done) | (simp; omega))))))) (Reads.below o5 (by (repeat (first | with_reducible assumption | with_reducible exact Below.refl _ _ | with_reducible refine Below.setCell ?_ (by first | omega | (simp; done) | (simp; omega)) _ | with_reducible refine Below.alloc ?_ (by first | omega | (simp; done) | (simp; omega)) _ | with_reducible refine Below.drew ?_ | (with_reducible refine Below.trans ?_ (Below.mono (by with_reducible assumption) (by first | omega | (simp; done) | (simp; omega)))) | (refine Below.trans ?_ (Below.mono (by assumption) (by first | omega | (simp; done) | (simp; omega))))))))).mono ?_); rintro e w6 ⟨r3, rfl, o6, b6⟩; have z6 := b6.size; (try simp at z6); have d6 := fun o => (bcell b6).1 wr.heap.size o (by first | omega | (simp; done) | (simp; omega))))
          have b7 : Below WW6.heap.size WW6 w6 := by (repeat (first | with_reducible assumption | with_reducible exact Below.refl _ _ | with_reducible refine Below.setCell ?_ (by first | omega | (simp; done) | (simp; omega)) _ | with_reducible refine Below.alloc ?_ (by first | omega | (simp; done) | (simp; omega)) _ | with_reducible refine Below.drew ?_ | (with_reducible refine Below.trans ?_ (Below.mono (by with_reducible assumption) (by first | omega | (simp; done) | (simp; omega)))) | (refine Below.trans ?_ (Below.mono (by assumption) (by first | omega | (simp; done) | (simp; omega))))))
          have HB7 := Lib.hid (below2 HBW.out b7)
          rw [HS.out] at o6
          have HO6 := Lib.hid (owns_base o6 (by have := HBW.out.size; have := b3.size; have := b5.size; simp at *; omega : w.heap.size ≤ _))
          clear o3 o5 o6 b3 b5 b6 b7 d3 d5 d6
          go_wp2_with fail
          go_roundw
          case rel => exact ⟨2, by omega, by go_num, HO6.out, HB7.out⟩
          case measure => simp [intOf]
        · simp only [show ((2 : Nat) : Int) = 2 from rfl]
          have hix := fun (W : World) => (show (Instr.index 187 (.agg #[.int .i64 1, .int .i64 q.group, .int .i64 2, .int .i64 q.ping, .int .i64 3, .int .i64 q.work, .int .i64 4, .int .i64 q.time]) (.int .i64 2)).run Try.prog W = .ok (.agg #[.int .i64 3, .int .i64 q.work]) W by kernel_rfl)
          go_upto_region 10 with fail
          clear hix
          go_name_world WW6 hWW6
          have e60 : WW6.cell? ⟨wr.heap.size, 0, none⟩ = some (.int .i64 3) := by subst hWW6; (first | (simp (disch := first | omega | (simp; omega)) [World.cell?_alloc_past, World.frozen?_alloc_past, *]; done) | (simp (disch := first | omega | (simp; omega)) [World.cell?_setCell_far, World.cell?_alloc_past, *]; done) | (simp (disch := first | omega | (simp; omega)) [World.cell?_alloc_past, World.frozen?_alloc_past, *]; rfl) | (simp (disch := first | omega | (simp; omega)) [World.cell?_setCell_far, World.cell?_alloc_past, *]; rfl) | (simp [go_sem, *]; done) | (simp (disch := first | omega | (simp; omega) | (simp [go_sem, *]; done)) [go_sem, World.cell?_setCell_far, World.cell?_alloc_past, World.frozen?_alloc_past, *]; done))
          have e61 : WW6.cell? ⟨wr.heap.size, 1, none⟩ = some (.int .i64 q.work) := by subst hWW6; (first | (simp (disch := first | omega | (simp; omega)) [World.cell?_alloc_past, World.frozen?_alloc_past, *]; done) | (simp (disch := first | omega | (simp; omega)) [World.cell?_setCell_far, World.cell?_alloc_past, *]; done) | (simp (disch := first | omega | (simp; omega)) [World.cell?_alloc_past, World.frozen?_alloc_past, *]; rfl) | (simp (disch := first | omega | (simp; omega)) [World.cell?_setCell_far, World.cell?_alloc_past, *]; rfl) | (simp [go_sem, *]; done) | (simp (disch := first | omega | (simp; omega) | (simp [go_sem, *]; done)) [go_sem, World.cell?_setCell_far, World.cell?_alloc_past, World.frozen?_alloc_past, *]; done))
          have bw6 : Below wr.heap.size wr WW6 := by subst hWW6; (repeat (first | assumption | exact Below.refl _ _ | refine Below.setCell ?_ (by first | omega | (simp; done) | (simp; omega)) _ | refine Below.alloc ?_ (by first | omega | (simp; done) | (simp; omega)) _ | refine Below.drew ?_ | (refine Below.trans ?_ (Below.mono (by assumption) (by first | omega | (simp; done) | (simp; omega))))))
          have zw6 : _ := bw6.size
          have lW60 : wr.heap.size < WW6.heap.size := by subst hWW6; first | omega | (simp; done) | (simp; omega)
          clear hWW6
          have hRW : ReadsL peV 10 WW6 (.slice p l.length c) l := Reads.below h0.out (below2 HBk.out bw6)
          have hRA := Reads.below (owns_reads HRk.out) bw6
          have HBW := Lib.hid (below2 HBk.out bw6)
          have hAl : (lfL l q s 2).length ≤ 1000000 := Nat.le_trans (lfL_len l q s 2) hn
          have hPl : ∀ x ∈ (lfL l q s 2).map (rkGet l), x.fits := fun x hx => by
            obtain ⟨i, hi, rfl⟩ := List.mem_map.1 hx
            have hil := lfL_lt hi
            rw [rkGet_at (List.getElem?_eq_getElem hil)]
            exact hl _ (List.getElem_mem _)
          have HP := Lib.hid (fun W (hW : Below WW6.heap.size WW6 W) => sh_pick_any _ _ l (lfL l q s 2) (fun i hi => lfL_lt hi) W (Reads.below hRW hW) (Reads.below hRA hW) hAl)
          have HF := Lib.hid (fun r W (hW : ReadsL peV 10 W r ((lfL l q s 2).map (rkGet l))) => rk_first_any r _ hPl 3 q.work hq.2.2.1 s hs W hW (by rw [List.length_map]; exact hAl))
          have HS : Hid (dropL (lfL l q s 2) (rkFirst ((lfL l q s 2).map (rkGet l)) 3 q.work s) = lfL l q s 3) := lf_step l q s 2
          have HD := Lib.hid (fun r W (hW : Below WW6.heap.size WW6 W) (hr : Reads W r _ 1 ((rkFirst ((lfL l q s 2).map (rkGet l)) 3 q.work s).map natV)) => sh_drop_any _ r (lfL l q s 2) _ (fun g hg => by have := first_in hg; rwa [List.length_map] at this) W (Reads.below hRA hW) hr hAl (Nat.le_trans (first_len _ _ _ _) (by rw [List.length_map]; exact hAl)))
          clear hRW hRA hAl hPl
          go_region_held3 (fun w' => w'.cell? ⟨wr.heap.size, 0, none⟩ = some (.int .i64 3) ∧ w'.cell? ⟨wr.heap.size, 1, none⟩ = some (.int .i64 q.work)) (first | go_keep | (simp (disch := omega) [*])) (first | (go_at_call 192; (with_reducible refine (HP.out _ (by (repeat (first | with_reducible assumption | with_reducible exact Below.refl _ _ | with_reducible refine Below.setCell ?_ (by first | omega | (simp; done) | (simp; omega)) _ | with_reducible refine Below.alloc ?_ (by first | omega | (simp; done) | (simp; omega)) _ | with_reducible refine Below.drew ?_ | (with_reducible refine Below.trans ?_ (Below.mono (by with_reducible assumption) (by first | omega | (simp; done) | (simp; omega)))) | (refine Below.trans ?_ (Below.mono (by assumption) (by first | omega | (simp; done) | (simp; omega)))))))).mono ?_); rintro e w3 ⟨r1, rfl, o3, b3⟩; have z3 := b3.size; (try simp at z3); have d3 := fun o => (bcell b3).1 wr.heap.size o (by first | omega | (simp; done) | (simp; omega))) | (go_at_call 191; (with_reducible refine (HF.out _ _ (ReadsL.below o3 (by (repeat (first | with_reducible assumption | with_reducible exact Below.refl _ _ | with_reducible refine Below.setCell ?_ (by first | omega | (simp; done) | (simp; omega)) _ | with_reducible refine Below.alloc ?_ (by first | omega | (simp; done) | (simp; omega)) _ | with_reducible refine Below.drew ?_ | (with_reducible refine Below.trans ?_ (Below.mono (by with_reducible assumption) (by first | omega | (simp; done) | (simp; omega)))) | (refine Below.trans ?_ (Below.mono (by assumption) (by first | omega | (simp; done) | (simp; omega))))))))).mono ?_); rintro e w5 ⟨r2, rfl, o5, b5⟩; have z5 := b5.size; (try simp at z5); have d5 := fun o => (bcell b5).1 wr.heap.size o (by first | omega | (simp; done) | (simp; omega))) | (go_at_call 190; (with_reducible refine (HD.out _ _ (by (repeat (first | with_reducible assumption | with_reducible exact Below.refl _ _ | with_reducible refine Below.setCell ?_ (by first | omega | (simp; done) | (simp; omega)) _ | with_reducible refine Below.alloc ?_ (by first | omega | (simp; done) | (simp; omega)) _ | with_reducible refine Below.drew ?_ | (with_reducible refine Below.trans ?_ (Below.mono (by with_reducible assumption) (by first | omega | (simp; done) | (simp; omega)))) | (refine Below.trans ?_ (Below.mono (by assumption) (by first | omega | (simp; done) | (simp; omega))))))) (Reads.below o5 (by (repeat (first | with_reducible assumption | with_reducible exact Below.refl _ _ | with_reducible refine Below.setCell ?_ (by first | omega | (simp; done) | (simp; omega)) _ | with_reducible refine Below.alloc ?_ (by first | omega | (simp; done) | (simp; omega)) _ | with_reducible refine Below.drew ?_ | (with_reducible refine Below.trans ?_ (Below.mono (by with_reducible assumption) (by first | omega | (simp; done) | (simp; omega)))) | (refine Below.trans ?_ (Below.mono (by assumption) (by first | omega | (simp; done) | (simp; omega))))))))).mono ?_); rintro e w6 ⟨r3, rfl, o6, b6⟩; have z6 := b6.size; (try simp at z6); have d6 := fun o => (bcell b6).1 wr.heap.size o (by first | omega | (simp; done) | (simp; omega))))
          have b7 : Below WW6.heap.size WW6 w6 := by (repeat (first | with_reducible assumption | with_reducible exact Below.refl _ _ | with_reducible refine Below.setCell ?_ (by first | omega | (simp; done) | (simp; omega)) _ | with_reducible refine Below.alloc ?_ (by first | omega | (simp; done) | (simp; omega)) _ | with_reducible refine Below.drew ?_ | (with_reducible refine Below.trans ?_ (Below.mono (by with_reducible assumption) (by first | omega | (simp; done) | (simp; omega)))) | (refine Below.trans ?_ (Below.mono (by assumption) (by first | omega | (simp; done) | (simp; omega))))))
          have HB7 := Lib.hid (below2 HBW.out b7)
          rw [HS.out] at o6
          have HO6 := Lib.hid (owns_base o6 (by have := HBW.out.size; have := b3.size; have := b5.size; simp at *; omega : w.heap.size ≤ _))
          clear o3 o5 o6 b3 b5 b6 b7 d3 d5 d6
          go_wp2_with fail
          go_roundw
          case rel => exact ⟨3, by omega, by go_num, HO6.out, HB7.out⟩
          case measure => simp [intOf]
        · simp only [show ((3 : Nat) : Int) = 3 from rfl]
          have hix := fun (W : World) => (show (Instr.index 187 (.agg #[.int .i64 1, .int .i64 q.group, .int .i64 2, .int .i64 q.ping, .int .i64 3, .int .i64 q.work, .int .i64 4, .int .i64 q.time]) (.int .i64 3)).run Try.prog W = .ok (.agg #[.int .i64 4, .int .i64 q.time]) W by kernel_rfl)
          go_upto_region 10 with fail
          clear hix
          go_name_world WW6 hWW6
          have e60 : WW6.cell? ⟨wr.heap.size, 0, none⟩ = some (.int .i64 4) := by subst hWW6; (first | (simp (disch := first | omega | (simp; omega)) [World.cell?_alloc_past, World.frozen?_alloc_past, *]; done) | (simp (disch := first | omega | (simp; omega)) [World.cell?_setCell_far, World.cell?_alloc_past, *]; done) | (simp (disch := first | omega | (simp; omega)) [World.cell?_alloc_past, World.frozen?_alloc_past, *]; rfl) | (simp (disch := first | omega | (simp; omega)) [World.cell?_setCell_far, World.cell?_alloc_past, *]; rfl) | (simp [go_sem, *]; done) | (simp (disch := first | omega | (simp; omega) | (simp [go_sem, *]; done)) [go_sem, World.cell?_setCell_far, World.cell?_alloc_past, World.frozen?_alloc_past, *]; done))
          have e61 : WW6.cell? ⟨wr.heap.size, 1, none⟩ = some (.int .i64 q.time) := by subst hWW6; (first | (simp (disch := first | omega | (simp; omega)) [World.cell?_alloc_past, World.frozen?_alloc_past, *]; done) | (simp (disch := first | omega | (simp; omega)) [World.cell?_setCell_far, World.cell?_alloc_past, *]; done) | (simp (disch := first | omega | (simp; omega)) [World.cell?_alloc_past, World.frozen?_alloc_past, *]; rfl) | (simp (disch := first | omega | (simp; omega)) [World.cell?_setCell_far, World.cell?_alloc_past, *]; rfl) | (simp [go_sem, *]; done) | (simp (disch := first | omega | (simp; omega) | (simp [go_sem, *]; done)) [go_sem, World.cell?_setCell_far, World.cell?_alloc_past, World.frozen?_alloc_past, *]; done))
          have bw6 : Below wr.heap.size wr WW6 := by subst hWW6; (repeat (first | assumption | exact Below.refl _ _ | refine Below.setCell ?_ (by first | omega | (simp; done) | (simp; omega)) _ | refine Below.alloc ?_ (by first | omega | (simp; done) | (simp; omega)) _ | refine Below.drew ?_ | (refine Below.trans ?_ (Below.mono (by assumption) (by first | omega | (simp; done) | (simp; omega))))))
          have zw6 : _ := bw6.size
          have lW60 : wr.heap.size < WW6.heap.size := by subst hWW6; first | omega | (simp; done) | (simp; omega)
          clear hWW6
          have hRW : ReadsL peV 10 WW6 (.slice p l.length c) l := Reads.below h0.out (below2 HBk.out bw6)
          have hRA := Reads.below (owns_reads HRk.out) bw6
          have HBW := Lib.hid (below2 HBk.out bw6)
          have hAl : (lfL l q s 3).length ≤ 1000000 := Nat.le_trans (lfL_len l q s 3) hn
          have hPl : ∀ x ∈ (lfL l q s 3).map (rkGet l), x.fits := fun x hx => by
            obtain ⟨i, hi, rfl⟩ := List.mem_map.1 hx
            have hil := lfL_lt hi
            rw [rkGet_at (List.getElem?_eq_getElem hil)]
            exact hl _ (List.getElem_mem _)
          have HP := Lib.hid (fun W (hW : Below WW6.heap.size WW6 W) => sh_pick_any _ _ l (lfL l q s 3) (fun i hi => lfL_lt hi) W (Reads.below hRW hW) (Reads.below hRA hW) hAl)
          have HF := Lib.hid (fun r W (hW : ReadsL peV 10 W r ((lfL l q s 3).map (rkGet l))) => rk_first_any r _ hPl 4 q.time hq.2.2.2 s hs W hW (by rw [List.length_map]; exact hAl))
          have HS : Hid (dropL (lfL l q s 3) (rkFirst ((lfL l q s 3).map (rkGet l)) 4 q.time s) = lfL l q s 4) := lf_step l q s 3
          have HD := Lib.hid (fun r W (hW : Below WW6.heap.size WW6 W) (hr : Reads W r _ 1 ((rkFirst ((lfL l q s 3).map (rkGet l)) 4 q.time s).map natV)) => sh_drop_any _ r (lfL l q s 3) _ (fun g hg => by have := first_in hg; rwa [List.length_map] at this) W (Reads.below hRA hW) hr hAl (Nat.le_trans (first_len _ _ _ _) (by rw [List.length_map]; exact hAl)))
          clear hRW hRA hAl hPl
          go_region_held3 (fun w' => w'.cell? ⟨wr.heap.size, 0, none⟩ = some (.int .i64 4) ∧ w'.cell? ⟨wr.heap.size, 1, none⟩ = some (.int .i64 q.time)) (first | go_keep | (simp (disch := omega) [*])) (first | (go_at_call 192; (with_reducible refine (HP.out _ (by (repeat (first | with_reducible assumption | with_reducible exact Below.refl _ _ | with_reducible refine Below.setCell ?_ (by first | omega | (simp; done) | (simp; omega)) _ | with_reducible refine Below.alloc ?_ (by first | omega | (simp; done) | (simp; omega)) _ | with_reducible refine Below.drew ?_ | (with_reducible refine Below.trans ?_ (Below.mono (by with_reducible assumption) (by first | omega | (simp; done) | (simp; omega)))) | (refine Below.trans ?_ (Below.mono (by assumption) (by first | omega | (simp; done) | (simp; omega)))))))).mono ?_); rintro e w3 ⟨r1, rfl, o3, b3⟩; have z3 := b3.size; (try simp at z3); have d3 := fun o => (bcell b3).1 wr.heap.size o (by first | omega | (simp; done) | (simp; omega))) | (go_at_call 191; (with_reducible refine (HF.out _ _ (ReadsL.below o3 (by (repeat (first | with_reducible assumption | with_reducible exact Below.refl _ _ | with_reducible refine Below.setCell ?_ (by first | omega | (simp; done) | (simp; omega)) _ | with_reducible refine Below.alloc ?_ (by first | omega | (simp; done) | (simp; omega)) _ | with_reducible refine Below.drew ?_ | (with_reducible refine Below.trans ?_ (Below.mono (by with_reducible assumption) (by first | omega | (simp; done) | (simp; omega)))) | (refine Below.trans ?_ (Below.mono (by assumption) (by first | omega | (simp; done) | (simp; omega))))))))).mono ?_); rintro e w5 ⟨r2, rfl, o5, b5⟩; have z5 := b5.size; (try simp at z5); have d5 := fun o => (bcell b5).1 wr.heap.size o (by first | omega | (simp; done) | (simp; omega))) | (go_at_call 190; (with_reducible refine (HD.out _ _ (by (repeat (first | with_reducible assumption | with_reducible exact Below.refl _ _ | with_reducible refine Below.setCell ?_ (by first | omega | (simp; done) | (simp; omega)) _ | with_reducible refine Below.alloc ?_ (by first | omega | (simp; done) | (simp; omega)) _ | with_reducible refine Below.drew ?_ | (with_reducible refine Below.trans ?_ (Below.mono (by with_reducible assumption) (by first | omega | (simp; done) | (simp; omega)))) | (refine Below.trans ?_ (Below.mono (by assumption) (by first | omega | (simp; done) | (simp; omega))))))) (Reads.below o5 (by (repeat (first | with_reducible assumption | with_reducible exact Below.refl _ _ | with_reducible refine Below.setCell ?_ (by first | omega | (simp; done) | (simp; omega)) _ | with_reducible refine Below.alloc ?_ (by first | omega | (simp; done) | (simp; omega)) _ | with_reducible refine Below.drew ?_ | (with_reducible refine Below.trans ?_ (Below.mono (by with_reducible assumption) (by first | omega | (simp; done) | (simp; omega)))) | (refine Below.trans ?_ (Below.mono (by assumption) (by first | omega | (simp; done) | (simp; omega))))))))).mono ?_); rintro e w6 ⟨r3, rfl, o6, b6⟩; have z6 := b6.size; (try simp at z6); have d6 := fun o => (bcell b6).1 wr.heap.size o (by first | omega | (simp; done) | (simp; omega))))
          have b7 : Below WW6.heap.size WW6 w6 := by (repeat (first | with_reducible assumption | with_reducible exact Below.refl _ _ | with_reducible refine Below.setCell ?_ (by first | omega | (simp; done) | (simp; omega)) _ | with_reducible refine Below.alloc ?_ (by first | omega | (simp; done) | (simp; omega)) _ | with_reducible refine Below.drew ?_ | (with_reducible refine Below.trans ?_ (Below.mono (by with_reducible assumption) (by first | omega | (simp; done) | (simp; omega)))) | (refine Below.trans ?_ (Below.mono (by assumption) (by first | omega | (simp; done) | (simp; omega))))))
          have HB7 := Lib.hid (below2 HBW.out b7)
          rw [HS.out] at o6
          have HO6 := Lib.hid (owns_base o6 (by have := HBW.out.size; have := b3.size; have := b5.size; simp at *; omega : w.heap.size ≤ _))
          clear o3 o5 o6 b3 b5 b6 b7 d3 d5 d6
          go_wp2_with fail
          go_roundw
          case rel => exact ⟨4, by omega, by go_num, HO6.out, HB7.out⟩
          case measure => simp [intOf]
theorem usedV_congr {n : Nat} {O O' : List Nat} (h : ∀ i, i < n → (i ∈ O ↔ i ∈ O')) : usedV n O = usedV n O' := by
  unfold usedV
  refine List.map_congr_left fun i hi => ?_
  congr 1
  exact decide_eq_decide.2 (h i (List.mem_range.1 hi))
theorem usedV_unset {n j : Nat} {O : List Nat} (h : j < n) : (usedV n O).set j (.bool false) = usedV n (O.filter fun i => decide (i ≠ j)) := by
  apply List.ext_getElem?
  intro i
  by_cases hi : i < n
  · rw [List.getElem?_set, usedV_len]
    by_cases e : j = i
    · subst e
      rw [if_pos rfl, if_pos h, usedV_get h, decide_eq_false (show ¬ j ∈ O.filter fun i => decide (i ≠ j) by simp)]
    · rw [if_neg e, usedV_get hi, usedV_get hi]
      congr 2
      refine decide_eq_decide.2 ?_
      rw [List.mem_filter, decide_eq_true_eq]
      exact ⟨fun h => ⟨h, fun e2 => e e2.symm⟩, fun h => h.1⟩
  · rw [List.getElem?_eq_none (by simp [usedV_len]; omega), List.getElem?_eq_none (by simp [usedV_len]; omega)]
theorem owns_setB {w : World} {base n U i : Nat} {e : TypeId} {size : Nat} {v x : Value} {xs us : List Value} {T : TypeId} (h : w.ownsRow base e size v n xs) (hb : BlockIs w U us T) (hne : v.ownBlock ≠ some U) : (w.setCell ⟨U, i, none⟩ x).ownsRow base e size v n xs := by
  obtain ⟨h1, h2⟩ := h
  refine ⟨h1, ?_⟩
  rcases h2 with h2 | ⟨g, cap, cur, rfl, hg, hh, r⟩
  · exact Or.inl h2
  · refine Or.inr ⟨g, cap, cur, rfl, hg, ?_, r⟩
    have hgu : g ≠ U := fun e => hne (by rw [e]; rfl)
    rw [← hh]; exact Below.heap_setCell _ _ _ _ (fun e => hgu e)
theorem reads_used {w : World} {B n : Nat} {T : TypeId} {O : List Nat} (hB : BlockIs w B (usedV n O) T) (hm : n ≤ 1000000) : Reads w (.slice (some ⟨B, 0, none⟩) n n) n 1 (usedV n O) := by
  refine ⟨by rw [usedV_len]; omega, by omega, ?_⟩
  rcases Nat.eq_zero_or_pos n with h0 | h0
  · exact Or.inl ⟨h0, _, _, by rw [h0]⟩
  · exact Or.inr ⟨h0, B, 0, n, rfl, Nat.le_refl _, hB.lt, fun j x hj => by rw [Nat.zero_add]; exact hB.cell hj⟩
end Go.Proofs.Ytppmjbnhghaffaa
/- The contracts of the document's Saved and Left, and of Bools. Conditions: numbers are 64 bits. -/
namespace Go.Proofs.Ytppmjbnhghaffaa
open Go.RowKit
set_option linter.unusedSimpArgs false
set_option linter.unusedVariables false

set_option maxRecDepth 100000 in
set_option maxHeartbeats 16000000 in
theorem ref_saved_any (v : Value) (l : List Pe) (hl : ∀ x ∈ l, x.fits) (qu : Qu) (s : Nat) (hs : s < 18446744073709551616) (w : World) (h : ReadsL peV 10 w v l) (hn : l.length ≤ 1000000) :
    Calls Try.prog 179 #[v, .agg #[.int .i64 qu.group, .int .i64 qu.ping, .int .i64 qu.work, .int .i64 qu.time], .int .u64 s] w fun e w' => ∃ r, e = .returned r ∧ Reads w' r l.length 1 (usedV l.length (svO l qu s 4)) ∧ Below w.heap.size w w' := by
  obtain ⟨hm, p, c, rfl, h3⟩ := pes_open h
  clear h
  have hmk := fun W => run_make_bools l.length hn W
  go_enter Try.func179, Try.ntmps179
  go_upto_region 3 with fail
  clear hmk
  go_name_world W0 hW0
  have hA0 : BlockIs W0 (w.heap.size + 1) (usedV l.length []) 4 := by subst hW0; exact BlockIs.newAt' _ _ _ (by simp)
  have d0 : W0.cell? ⟨w.heap.size, 0, none⟩ = some (.int .i64 qu.group) := by subst hW0; (first | (simp [go_sem, *]; done) | (simp (disch := first | omega | (simp; omega) | (simp [go_sem, *]; done)) [go_sem, World.cell?_setCell_far, World.cell?_alloc_past, World.frozen?_alloc_past, *]; done))
  have d1 : W0.cell? ⟨w.heap.size, 1, none⟩ = some (.int .i64 qu.ping) := by subst hW0; (first | (simp [go_sem, *]; done) | (simp (disch := first | omega | (simp; omega) | (simp [go_sem, *]; done)) [go_sem, World.cell?_setCell_far, World.cell?_alloc_past, World.frozen?_alloc_past, *]; done))
  have d2 : W0.cell? ⟨w.heap.size, 2, none⟩ = some (.int .i64 qu.work) := by subst hW0; (first | (simp [go_sem, *]; done) | (simp (disch := first | omega | (simp; omega) | (simp [go_sem, *]; done)) [go_sem, World.cell?_setCell_far, World.cell?_alloc_past, World.frozen?_alloc_past, *]; done))
  have d3 : W0.cell? ⟨w.heap.size, 3, none⟩ = some (.int .i64 qu.time) := by subst hW0; (first | (simp [go_sem, *]; done) | (simp (disch := first | omega | (simp; omega) | (simp [go_sem, *]; done)) [go_sem, World.cell?_setCell_far, World.cell?_alloc_past, World.frozen?_alloc_past, *]; done))
  have b0 : Below w.heap.size w W0 := by subst hW0; (repeat (first | with_reducible assumption | with_reducible exact Below.refl _ _ | with_reducible refine Below.setCell ?_ (by first | omega | (simp; done) | (simp; omega)) _ | with_reducible refine Below.alloc ?_ (by first | omega | (simp; done) | (simp; omega)) _ | with_reducible refine Below.drew ?_ | (with_reducible refine Below.trans ?_ (Below.mono (by with_reducible assumption) (by first | omega | (simp; done) | (simp; omega)))) | (refine Below.trans ?_ (Below.mono (by assumption) (by first | omega | (simp; done) | (simp; omega))))))
  have z0 : w.heap.size + 2 ≤ W0.heap.size := by subst hW0; simp
  obtain ⟨U, hU⟩ : ∃ U, U = w.heap.size + 1 := ⟨_, rfl⟩
  rw [← hU] at hA0
  rw [← hU]
  have HA0 := Lib.hid hA0; have HB00 := Lib.hid b0; have HUU := Lib.hid hU; have HZ := Lib.hid z0
  have HD0 := Lib.hid d0; have HD1 := Lib.hid d1; have HD2 := Lib.hid d2; have HD3 := Lib.hid d3
  clear hW0 hA0 b0 hU z0 d0 d1 d2 d3
  go_loopw [8] (fun b' wr => ∃ c ob : Nat, Hid (ob = c + 1) ∧ c ≤ 4 ∧ b' = .int .i64 ob ∧ Hid (BlockIs wr U (usedV l.length (svO l qu s c)) 4) ∧ Hid (Below U W0 wr)) (fun b' _ => 6 - (intOf b').toNat)
  case atStart => exact ⟨0, 1, rfl, by omega, rfl, HA0.out, Below.refl _ _⟩
  case round =>
    obtain ⟨cc0, ob, HOB, hc, rfl, HUc, HBc⟩ := hrel
    by_cases hb4 : (ob : Int) ≤ 4
    · have HN : Hid (svO l qu s (cc0 + 1) = svO l qu s cc0 ++ (ssort (rkLt l (ob : Int) s) (leftOf (rkIdx l (ob : Int) l.length) (svO l qu s cc0))).take (quN qu ob).toNat) := by
        show _ = _; rw [HOB.out]; rfl
      obtain ⟨n, hqn⟩ : ∃ n, n = quN qu ob := ⟨_, rfl⟩
      rw [← hqn] at HN
      have HQ : Hid (∀ w, Calls Try.prog 124 #[.agg #[.int .i64 qu.group, .int .i64 qu.ping, .int .i64 qu.work, .int .i64 qu.time], .int .i64 ob] w fun e w' => e = .returned (.int .i64 n) ∧ Below w.heap.size w w') := fun w => hqn ▸ refQuota_any qu ob w
      clear hqn
      obtain ⟨O0, hO0⟩ : ∃ O0, O0 = svO l qu s cc0 := ⟨_, rfl⟩
      rw [← hO0] at HN HUc
      clear hO0
      go_wp2_with fail
      obtain ⟨wb, rfl⟩ : ∃ wb : World, wb = wr := ⟨_, rfl⟩
      go_loopw [9] (fun t' wr => ∃ (t : Nat) (T O : List Nat), t ≤ l.length ∧ (t : Int) ≤ max n 0 ∧ t' = .int .i64 t ∧ Hid (O = O0 ++ T) ∧ Hid (T.length ≤ t) ∧ Hid (T.length = t ∨ leftOf (rkIdx l (ob : Int) l.length) O = []) ∧ Hid (BlockIs wr U (usedV l.length O) 4) ∧ Hid (Below U W0 wr) ∧ Hid (ssort (rkLt l (ob : Int) s) (leftOf (rkIdx l (ob : Int) l.length) O0) = T ++ ssort (rkLt l (ob : Int) s) (leftOf (rkIdx l (ob : Int) l.length) O))) (fun t' _ => l.length - (intOf t').toNat)
      case atStart => exact ⟨0, [], O0, by omega, by omega, rfl, (by simp : O0 = O0 ++ []), Nat.le_refl _, Or.inl rfl, HUc.out, HBc.out, rfl⟩
      case round =>
        obtain ⟨t, T, O, ht, htn, rfl, HOT, HTl, HTd, HU, HBU, HS⟩ := hrel
        obtain ⟨wo, rfl⟩ : ∃ wo : World, wo = wr := ⟨_, rfl⟩
        have HB0 : Hid (Below w.heap.size w wo) := HB00.out.trans (HBU.out.mono (by have := HUU.out; omega))
        have g0 := keep HBU.out (show w.heap.size < U by have := HUU.out; omega) HD0.out
        have g1 := keep HBU.out (show w.heap.size < U by have := HUU.out; omega) HD1.out
        have g2 := keep HBU.out (show w.heap.size < U by have := HUU.out; omega) HD2.out
        have g3 := keep HBU.out (show w.heap.size < U by have := HUU.out; omega) HD3.out
        have HDone : Hid ((t : Int) ≥ n ∨ t = l.length → O = svO l qu s (cc0 + 1)) := fun he => by
          have hSl : (ssort (rkLt l (ob : Int) s) (leftOf (rkIdx l (ob : Int) l.length) O0)).length ≤ l.length := by
            rw [ssort_len]
            refine Nat.le_trans (List.length_filter_le _ _) (Nat.le_trans (List.length_filter_le _ _) ?_)
            rw [List.length_range]; exact Nat.le_refl _
          rw [HN.out, HOT.out, ← take_done (t := t) (n := n.toNat) HS.out HTl.out (HTd.out.imp id fun h => by rw [h]; rfl) (by omega) (by
            rcases he with he | he
            · left; omega
            · right; omega)]
        by_cases hc1 : (t : Int) < n
        · by_cases hc2 : t < l.length
          · have hc2z : (t : Int) < (l.length : Int) := by omega
            obtain ⟨b, o, rfl, h4, h5, h6⟩ := h3 (by omega)
            clear h3
            go_wp2_with (go_at_call 124; (with_reducible refine (HQ.out _).mono ?_); rintro e w6 ⟨rfl, b6⟩)
            clear g0 g1 g2 g3
            go_loopw [10, 11] (fun a' i' wr => ∃ i : Nat, i ≤ l.length ∧ i' = .int .i64 i ∧ a' = .int .i64 (atI (pickL (rkLt l (ob : Int) s) (leftOf (rkIdx l (ob : Int) i) O))) ∧ Hid (Below wo.heap.size wo wr)) (fun _ i' _ => l.length - (intOf i').toNat)
            case atStart => exact ⟨0, by omega, rfl, rfl, b6⟩
            case round =>
              obtain ⟨i, hi, rfl, rfl, HB2⟩ := hrel
              have HU2 := HU
              by_cases hlt : i < l.length
              · obtain ⟨p, hp⟩ : ∃ p, l[i]? = some p := ⟨_, List.getElem?_eq_getElem hlt⟩
                have hu := fun y => (HU2.out.below (HB2.out.trans (ext_below wr y |>.mono HB2.out.size))).cell (usedV_get (O := O) hlt)
                have q1 : (0 : Int) ≤ (i : Int) := by omega
                have q2 : (i : Int) < (l.length : Int) := by omega
                have K := ((h6 i p hp).below (HB0.out.trans (HB2.out.mono HB0.out.size)) h5).ext (Nat.lt_of_lt_of_le h5 (HB0.out.trans (HB2.out.mono HB0.out.size)).size)
                have x0 := fun y => (K y).1; have x1 := fun y => (K y).2.1; have x2 := fun y => (K y).2.2.1; have x3 := fun y => (K y).2.2.2.1; have x4 := fun y => (K y).2.2.2.2.1; have x5 := fun y => (K y).2.2.2.2.2.1; have x6 := fun y => (K y).2.2.2.2.2.2.1; have x7 := fun y => (K y).2.2.2.2.2.2.2.1; have x8 := fun y => (K y).2.2.2.2.2.2.2.2.1; have x9 := fun y => (K y).2.2.2.2.2.2.2.2.2
                have hg := rkGet_at hp
                have HC := Lib.hid (fun w => ref_counts_any p (ob : Int) w)
                clear K
                by_cases hin : i ∈ O
                · have HR : Hid (pickL (rkLt l (ob : Int) s) (leftOf (rkIdx l (ob : Int) (i + 1)) O) = pickL (rkLt l (ob : Int) s) (leftOf (rkIdx l (ob : Int) i) O)) := pick_skip (Or.inl hin)
                  have hu' : ∀ y, (Go.Proofs.Ytppmjbnhghaffaa.ext wr y).cell? ⟨U, i, none⟩ = some (.bool true) := fun y => by rw [hu y, decide_eq_true hin]
                  have HA : Hid True := trivial
                  clear hu hg hp hin
                  go_wp2_with fail
                  refine wp_region_ext (by kernel_rfl) (by kernel_rfl) ?_
                  repeat (go_big_quiet_step ((first | (go_at_call 122; with_reducible exact qe (HC.out _)) | (go_at_call 153; with_reducible exact qe (HA.out _)))))
                  refine wpQuiet_nil ?_
                  intro _ hw'
                  obtain ⟨gx, hw'''⟩ := hw'
                  subst hw'''
                  clear hu' x0 x1 x2 x3 x4 x5 x6 x7 x8 x9
                  have b8 := below2 HB2.out (ext_below wr gx)
                  go_wp2_with fail
                  go_roundw
                  case rel => exact ⟨i + 1, by omega, by go_num, by rw [HR.out], b8⟩
                  case measure => simp [intOf]; omega

                have hu' : ∀ y, (Go.Proofs.Ytppmjbnhghaffaa.ext wr y).cell? ⟨U, i, none⟩ = some (.bool false) := fun y => by rw [hu y, decide_eq_false hin]
                clear hu
                cases hcc : rkCounts p (ob : Int) with
                | false =>
                  have HR : Hid (pickL (rkLt l (ob : Int) s) (leftOf (rkIdx l (ob : Int) (i + 1)) O) = pickL (rkLt l (ob : Int) s) (leftOf (rkIdx l (ob : Int) i) O)) := pick_skip (Or.inr (by rw [hg]; exact hcc))
                  have HA : Hid True := trivial
                  have HC0 := HC.out
                  rw [hcc] at HC0
                  clear HC
                  have HC := Lib.hid HC0
                  clear HC0 hg hp hin hcc
                  go_wp2_with fail
                  refine wp_region_ext (by kernel_rfl) (by kernel_rfl) ?_
                  repeat (go_big_quiet_step ((first | (go_at_call 122; with_reducible exact qe (HC.out _)) | (go_at_call 153; with_reducible exact qe (HA.out _)))))
                  refine wpQuiet_nil ?_
                  intro _ hw'
                  obtain ⟨gx, hw'''⟩ := hw'
                  subst hw'''
                  clear hu' x0 x1 x2 x3 x4 x5 x6 x7 x8 x9
                  have b8 := below2 HB2.out (ext_below wr gx)
                  go_wp2_with fail
                  go_roundw
                  case rel => exact ⟨i + 1, by omega, by go_num, by rw [HR.out], b8⟩
                  case measure => simp [intOf]; omega

                | true =>
                  have HR := Lib.hid (pick_take (s := s) hin (show rkCounts (rkGet l i) (ob : Int) = true by rw [hg]; exact hcc))
                  have HC0 := HC.out
                  rw [hcc] at HC0
                  clear HC
                  have HC := Lib.hid HC0
                  clear HC0
                  cases hpk : pickL (rkLt l (ob : Int) s) (leftOf (rkIdx l (ob : Int) i) O) with
                  | none =>
                    have hat : atI none = -1 := rfl
                    rw [hpk] at HR
                    have HA : Hid True := trivial
                    simp only [hat]
                    clear hg hp hin hcc hpk hat
                    go_wp2_with fail
                    refine wp_region_ext (by kernel_rfl) (by kernel_rfl) ?_
                    repeat (go_big_quiet_step ((first | (go_at_call 122; with_reducible exact qe (HC.out _)) | (go_at_call 153; with_reducible exact qe (HA.out _)))))
                    refine wpQuiet_nil ?_
                    intro _ hw'
                    obtain ⟨gx, hw'''⟩ := hw'
                    subst hw'''
                    clear hu' x0 x1 x2 x3 x4 x5 x6 x7 x8 x9
                    have b8 := below2 HB2.out (ext_below wr gx)
                    go_wp2_with fail
                    go_roundw
                    case rel => exact ⟨i + 1, by omega, by go_num, by rw [HR.out]; rfl, b8⟩
                    case measure => simp [intOf]; omega

                  | some j =>
                    have hji := pick_in hpk
                    have hjl : j < l.length := by omega
                    obtain ⟨pj, hpj⟩ : ∃ p, l[j]? = some p := ⟨_, List.getElem?_eq_getElem hjl⟩
                    have K2 := ((h6 j pj hpj).below (HB0.out.trans (HB2.out.mono HB0.out.size)) h5).ext (Nat.lt_of_lt_of_le h5 (HB0.out.trans (HB2.out.mono HB0.out.size)).size)
                    have y0 := fun y => (K2 y).1; have y1 := fun y => (K2 y).2.1; have y2 := fun y => (K2 y).2.2.1; have y3 := fun y => (K2 y).2.2.2.1; have y4 := fun y => (K2 y).2.2.2.2.1; have y5 := fun y => (K2 y).2.2.2.2.2.1; have y6 := fun y => (K2 y).2.2.2.2.2.2.1; have y7 := fun y => (K2 y).2.2.2.2.2.2.2.1; have y8 := fun y => (K2 y).2.2.2.2.2.2.2.2.1; have y9 := fun y => (K2 y).2.2.2.2.2.2.2.2.2
                    have q3 : (0 : Int) ≤ (j : Int) := by omega
                    have q4 : (j : Int) < (l.length : Int) := by omega
                    have hin4 := counts_in hcc
                    have hlt2 : rkLt l (ob : Int) s i j = rkAhead p pj (ob : Int) s := by rw [rkAhead_in hin4.1 hin4.2]; unfold rkLt; rw [hg, rkGet_at hpj]
                    have hA0 := fun w => ref_ahead_any p pj (hl p (List.mem_of_getElem? hp)) (hl pj (List.mem_of_getElem? hpj)) (ob : Int) s hs w
                    rw [hpk] at HR
                    have hat : atI (some j) = (j : Int) := rfl
                    have hnj : ¬ ((j : Int) < 0) := by omega
                    have hnjd : decide ((j : Int) < 0) = false := decide_eq_false hnj
                    simp only [hat]
                    cases haa : rkAhead p pj (ob : Int) s with
                    | true =>
                      have HR2 : Hid (pickL (rkLt l (ob : Int) s) (leftOf (rkIdx l (ob : Int) (i + 1)) O) = some i) := by show _ = _; rw [HR.out]; unfold pickStep; simp only; rw [hlt2, haa]; rfl
                      rw [haa] at hA0
                      have HA := Lib.hid hA0
                      clear hA0 hg hp hin hcc hpk hat K2 hpj hlt2 haa HR
                      go_wp2_with fail
                      refine wp_region_ext (by kernel_rfl) (by kernel_rfl) ?_
                      repeat (go_big_quiet_step ((first | (go_at_call 122; with_reducible exact qe (HC.out _)) | (go_at_call 153; with_reducible exact qe (HA.out _)))))
                      refine wpQuiet_nil ?_
                      intro _ hw'
                      obtain ⟨gx, hw'''⟩ := hw'
                      subst hw'''
                      clear hu' x0 x1 x2 x3 x4 x5 x6 x7 x8 x9 y0 y1 y2 y3 y4 y5 y6 y7 y8 y9
                      have b8 := below2 HB2.out (ext_below wr gx)
                      go_wp2_with fail
                      go_roundw
                      case rel => exact ⟨i + 1, by omega, by go_num, by rw [HR2.out]; rfl, b8⟩
                      case measure => simp [intOf]; omega

                    | false =>
                      have HR2 : Hid (pickL (rkLt l (ob : Int) s) (leftOf (rkIdx l (ob : Int) (i + 1)) O) = some j) := by show _ = _; rw [HR.out]; unfold pickStep; simp only; rw [hlt2, haa]; rfl
                      rw [haa] at hA0
                      have HA := Lib.hid hA0
                      clear hA0 hg hp hin hcc hpk hat K2 hpj hlt2 haa HR
                      go_wp2_with fail
                      refine wp_region_ext (by kernel_rfl) (by kernel_rfl) ?_
                      repeat (go_big_quiet_step ((first | (go_at_call 122; with_reducible exact qe (HC.out _)) | (go_at_call 153; with_reducible exact qe (HA.out _)))))
                      refine wpQuiet_nil ?_
                      intro _ hw'
                      obtain ⟨gx, hw'''⟩ := hw'
                      subst hw'''
                      clear hu' x0 x1 x2 x3 x4 x5 x6 x7 x8 x9 y0 y1 y2 y3 y4 y5 y6 y7 y8 y9
                      have b8 := below2 HB2.out (ext_below wr gx)
                      go_wp2_with fail
                      go_roundw
                      case rel => exact ⟨i + 1, by omega, by go_num, by rw [HR2.out]; rfl, b8⟩
                      case measure => simp [intOf]; omega

              · obtain rfl : i = l.length := by omega
                have hB2 := HB0.out.trans (HB2.out.mono HB0.out.size)
                have HB2' := Lib.hid hB2
                have HBU2 : Hid (Below U W0 wr) := HBU.out.trans (HB2.out.mono (by have := HBU.out.size; have := HZ.out; have := HUU.out; omega))
                have HUw := Lib.hid (HU.out.below HB2.out)
                clear hB2
                cases hpk : pickL (rkLt l (ob : Int) s) (leftOf (rkIdx l (ob : Int) l.length) O) with
                | none =>
                  have hat : atI none = -1 := rfl
                  have HLE := Lib.hid (pickL_nil hpk)
                  simp only [hat]
                  clear hpk hat
                  go_wp2_with fail
                  go_roundw
                  case rel => exact ⟨t + 1, T, O, by omega, by omega, by go_num, HOT.out, Nat.le_succ_of_le HTl.out, Or.inr HLE.out, HUw.out, HBU2.out, HS.out⟩
                  case measure => simp [intOf]; omega
                | some j =>
                  have hla : leftOf (leftOf (rkIdx l (ob : Int) l.length) O0) T = leftOf (rkIdx l (ob : Int) l.length) O := by rw [left_app, HOT.out]
                  obtain ⟨hj1, hj2, hj3⟩ := left_pick (idx := leftOf (rkIdx l (ob : Int) l.length) O0) (O := T) (wo_lt l (ob : Int) s) ((rkIdx_nodup l (ob : Int) l.length).filter _) (by rw [hla]; exact hpk) (by rw [hla]; exact HS.out)
                  have hjl := rkIdx_lt (left_mem.1 hj1).1
                  have hne : leftOf (rkIdx l (ob : Int) l.length) O ≠ [] := fun e => by rw [e] at hpk; cases hpk
                  have hTl : T.length = t := HTd.out.resolve_right hne
                  have hat : atI (some j) = (j : Int) := rfl
                  have hnj : ¬ ((j : Int) < 0) := by omega
                  have q3 : (0 : Int) ≤ (j : Int) := by omega
                  have q4 : (j : Int) < (l.length : Int) := by omega
                  have hcu := HUw.out.cell (usedV_get (O := O) hjl)
                  have hfu := HUw.out.frozen j
                  have hUl := HUw.out.lt
                  simp only [hat]
                  have HS3 : Hid (ssort (rkLt l (ob : Int) s) (leftOf (rkIdx l (ob : Int) l.length) O0) = (T ++ [j]) ++ ssort (rkLt l (ob : Int) s) (leftOf (rkIdx l (ob : Int) l.length) (O ++ [j]))) := by
                    show _ = _
                    rw [hj3, left_app, HOT.out, List.append_assoc O0 T [j]]
                  have HTL := Lib.hid hTl; have HJL := Lib.hid hjl
                  clear hpk hat hj1 hj2 hj3 hla hne hTl
                  go_upto_region 7 with fail
                  go_name_world W5 hW5
                  have hU5 : BlockIs W5 U (usedV l.length (O ++ [j])) 4 := by subst hW5; rw [← usedV_set HJL.out]; exact HUw.out.set j _
                  have hB5 : Below U W0 W5 := by subst hW5; exact HBU2.out.setCell (Nat.le_refl _) _
                  clear hW5 hcu hfu hUl
                  have HU5 := Lib.hid hU5; have HB5 := Lib.hid hB5
                  clear hU5 hB5
                  go_wp2_with fail
                  go_roundw
                  case rel => exact ⟨t + 1, T ++ [j], O ++ [j], by omega, by omega, by go_num, (show _ = _ by rw [HOT.out, List.append_assoc]), (by rw [List.length_append, List.length_singleton, HTL.out]; exact Nat.le_refl _), Or.inl (by rw [List.length_append, List.length_singleton, HTL.out]), HU5.out, HB5.out, HS3.out⟩
                  case measure => simp [intOf]; omega
          · have hc2z : ¬ ((t : Int) < (l.length : Int)) := by omega
            have HO9 := Lib.hid (HDone.out (Or.inr (by omega)))
            go_wp2_with (go_at_call 124; (with_reducible refine (HQ.out _).mono ?_); rintro e w6 ⟨rfl, b6⟩)
            clear g0 g1 g2 g3
            go_roundw
            case rel => exact ⟨cc0 + 1, ob + 1, (show _ = _ by rw [HOB.out]), (by have := HOB.out; omega), by go_num, (by rw [← HO9.out]; exact HU.out.below b6), HBU.out.trans (b6.mono (by have := HBU.out.size; have := HZ.out; have := HUU.out; omega))⟩
            case measure => simp [intOf]; omega
        · have HO9 := Lib.hid (HDone.out (Or.inl (by omega)))
          go_wp2_with (go_at_call 124; (with_reducible refine (HQ.out _).mono ?_); rintro e w6 ⟨rfl, b6⟩)
          clear g0 g1 g2 g3
          go_roundw
          case rel => exact ⟨cc0 + 1, ob + 1, (show _ = _ by rw [HOB.out]), (by have := HOB.out; omega), by go_num, (by rw [← HO9.out]; exact HU.out.below b6), HBU.out.trans (b6.mono (by have := HBU.out.size; have := HZ.out; have := HUU.out; omega))⟩
          case measure => simp [intOf]; omega
    · obtain rfl : cc0 = 4 := by have := HOB.out; omega
      have HF : Hid (Reads wr (.slice (some ⟨U, 0, none⟩) l.length l.length) l.length 1 (usedV l.length (svO l qu s 4))) := reads_used HUc.out hn
      have HB9 : Hid (Below w.heap.size w wr) := HB00.out.trans (HBc.out.mono (by have := HUU.out; omega))
      go_wp2_with fail
      go_ret
      exact ⟨_, rfl, HF.out, HB9.out⟩
theorem lfK_succ (m : Nat) (O : List Nat) (k : Nat) : leftOf (List.range (k + 1)) O = leftOf (List.range k) O ++ (if k ∈ O then [] else [k]) := by
  rw [List.range_succ, left_snoc]
end Go.Proofs.Ytppmjbnhghaffaa
/- Whoever is inside a quota is protected: plain. Conditions: ends unlike. -/
namespace Go.Proofs.Ytppmjbnhghaffaa
open Go.RowKit

theorem inB_saved {l : List Pe} {q : Qu} {s i b : Nat} (hU : Unlike l) (hi : i < l.length) (h : inB l q s i (b + 1 : Nat) = true) : i ∈ svO l q s (b + 1) := by
  unfold inB at h
  have hm : i ∈ rkFirst l (b + 1 : Nat) (quN q (b + 1 : Nat)) s := by
    refine (first_mem l _ _ s i hU hi).2 ?_
    have e : rkRank l (i : Int) (b + 1 : Nat) s = ((rkN l (rkGet l i) (b + 1 : Nat) s l.length : Nat) : Int) := by
      unfold rkRank
      rw [if_neg (by omega), show ((i : Int)).toNat = i from by omega]; rfl
    rwa [e] at h
  have hc : rkCounts (rkGet l i) (b + 1 : Nat) = true := by
    rw [Bool.and_eq_true] at h; exact h.1
  have hx : i ∈ rkIdx l (b + 1 : Nat) l.length := List.mem_filter.2 ⟨List.mem_range.2 hi, hc⟩
  exact svStep_in (wo_lt l _ s) (idx_total l _ s hU) hi hc ((first_iff (wo_lt l _ s) (idx_total l _ s hU) _ hx).1 hm)
theorem svO_mono {l : List Pe} {q : Qu} {s i : Nat} : ∀ {a b : Nat}, a ≤ b → i ∈ svO l q s a → i ∈ svO l q s b
  | a, 0, h, hm => by obtain rfl : a = 0 := by omega
                      exact hm
  | a, b + 1, h, hm => by
    rcases Nat.lt_or_ge b a with h1 | h1
    · obtain rfl : a = b + 1 := by omega
      exact hm
    · exact svStep_sub (svO_mono h1 hm)
theorem inside_saved {l : List Pe} {q : Qu} {s i : Nat} (hU : Unlike l) (hi : i < l.length) (h : shIn l i q s = true) : i ∈ svO l q s 4 := by
  rw [shIn_at hi] at h
  have key : ∀ b : Nat, b + 1 ≤ 4 → inB l q s i (b + 1 : Nat) = true → i ∈ svO l q s 4 := fun b hb hin => svO_mono hb (inB_saved hU hi hin)
  cases h1 : inB l q s i 1 with
  | true => exact key 0 (by omega) h1
  | false =>
    cases h2 : inB l q s i 2 with
    | true => exact key 1 (by omega) h2
    | false =>
      cases h3 : inB l q s i 3 with
      | true => exact key 2 (by omega) h3
      | false =>
        rw [h1, h2, h3] at h
        exact key 3 (by omega) h
end Go.Proofs.Ytppmjbnhghaffaa
/- How quotas are opened. No condition. -/
namespace Go.Proofs.Ytppmjbnhghaffaa
open Go.ChangeShapes Go.WideShapes Go.ChangeAt Go.RowKit Go.Deep
def quV (q : Qu) : List Value := [.int .i64 q.group, .int .i64 q.ping, .int .i64 q.work, .int .i64 q.time]
theorem quV_len (q : Qu) : (quV q).length = 4 := rfl
theorem opens_qu : Opens Try.prog 103 quV Qu.fits :=
  (opens_of_fields Try.underlying103 (opensF_cons (n := 1) (opens_i64 Try.underlying3) (by kernel_rfl) rfl (opensF_cons (n := 1) (opens_i64 Try.underlying3) (by kernel_rfl) rfl (opensF_cons (n := 1) (opens_i64 Try.underlying3) (by kernel_rfl) rfl (opensF_cons (n := 1) (opens_i64 Try.underlying3) (by kernel_rfl) rfl opensF_nil)))) (by kernel_rfl)).map
    fun ⟨g, p, k, t, _⟩ ⟨h1, h2, h3, h4, _⟩ => ⟨⟨g, p, k, t⟩, ⟨h1, h2, h3, h4⟩, rfl⟩
end Go.Proofs.Ytppmjbnhghaffaa
