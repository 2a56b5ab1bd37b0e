/- Texts put together: ShH, ShI, ShJ, ShL, ShK. No condition. -/
import Derived.Test.YtnplgagaoeckoaaGreatRapolmtkczm
import Derived.Test.YtnplgagaoeckoaaGreatRmmjmhtuwoe
import Derived.Test.YtnplgagaoeckoaaGreatRmivrdwlfak
import Derived.Test.YtnplgagaoeckoaaGreatRfpzzrhnffr
import Derived.Deep.RegionLaw
set_option maxRecDepth 100000
set_option linter.unusedSimpArgs false
set_option linter.unusedVariables false
namespace Go.Proofs.YtnplgagaoeckoaaGreat
open Go.RowKit Go.Lib
set_option maxHeartbeats 8000000 in
theorem refShPeers_any (z : Int) (v : Value) (l : List Pe) (w : World) (h : ReadsL peV 10 w v l) (hl : l.length ≤ 1000000) :
  Calls Tryz.prog 80 #[.agg #[.int .i64 z, v]] w fun e w' => ∃ r, e = .returned r ∧ ReadsL peV 10 w' r (l.take z.toNat) ∧ Below w.heap.size w w' := by
 obtain ⟨hm, a0, c, rfl, h3⟩ := pes_open h
 clear h
 obtain ⟨B, hB⟩ : ∃ B, B = w.heap.size := ⟨_, rfl⟩
 have HBk : Hid (BlockIs ((w.alloc (.cells #[.int .i64 z, .slice a0 l.length c] 112)).alloc (.cells #[] 52)) B [.int .i64 z, .slice a0 l.length c] 112) := by subst hB; exact (BlockIs.new w [.int .i64 z, .slice a0 l.length c] _).alloc' _
 have HMade : Hid (((w.alloc (.cells #[.int .i64 z, .slice a0 l.length c] 112)).alloc (.cells #[] 52)).ownsRow (B + 1) 52 10 (.slice (some ⟨B + 1, 0, none⟩) 0 0) 0 []) := by subst hB; exact own_made (by simp) (by simp)
 have HB0 : Hid (Below w.heap.size w ((w.alloc (.cells #[.int .i64 z, .slice a0 l.length c] 112)).alloc (.cells #[] 52))) := ((Below.refl _ _).alloc (Nat.le_refl _) _).alloc (by simp) _
 have HBw := zh hB
 go_enter Tryz.func80, Tryz.ntmps80
 go_wp2_with fail
 rw [← hB]
 go_loopw [3, 4] (fun u' i' wr => ∃ k : Nat, k ≤ l.length ∧ i' = .int .i64 k ∧ Hid ((k : Int) ≤ max z 0) ∧ Hid (wr.ownsRow (B + 1) 52 10 u' k ((l.take k).flatMap peV)) ∧ Hid (BlockIs wr B [.int .i64 z, .slice a0 l.length c] 112) ∧ Hid (Below w.heap.size w wr)) (fun _ i' _ => l.length - (intOf i').toNat)
 case atStart => exact ⟨0, by omega, rfl, by show _ ≤ _; omega, HMade.out, HBk.out, HB0.out⟩
 case round =>
  clear HMade HB0 HBk hB
  obtain ⟨k, hk, rfl, HZ, HU, HP, HB⟩ := hrel
  have hP := HP.out
  obtain ⟨s0, s1⟩ := hP.e2
  have lB := hP.lt
  have q1 : (0 : Int) ≤ (k : Int) := by omega
  clear hP
  by_cases hkz : (k : Int) < z
  ·have q5 : decide ((k : Int) < z) = true := decide_eq_true hkz
   by_cases hlt : k < l.length
   ·obtain ⟨x, hx⟩ : ∃ x, l[k]? = some x := ⟨_, List.getElem?_eq_getElem hlt⟩
    obtain ⟨b, o, rfl, h4, h5, h6⟩ := h3 (by omega)
    have hK := (h6 k x hx).below HB.out h5
    obtain ⟨k0, k1, k2, k3, k4, k5, k6, k7, k8, k9⟩ := hK
    have q2 : (k : Int) < (l.length : Int) := by omega
    have q6 : decide ((k : Int) < (l.length : Int)) = true := decide_eq_true q2
    have q7 : decide (k < l.length) = true := decide_eq_true hlt
    have hS : l.take (k + 1) = l.take k ++ [x] := by rw [List.take_add_one, hx, Option.toList_some]
    have HS := zh hS
    have HFl : Hid ((l.take k ++ [x]).flatMap peV = (l.take k).flatMap peV ++ peV x) := by show _ = _; rw [List.flatMap_append]; simp
    have HW : Hid (B + 1 ≤ wr.heap.size) := lB
    clear hx h6 h3 hS
    go_wp2_with (at_builtin; refine list_app_reads peRow rfl (.tmp 19) (.tmp 25) rfl (B + 1) _ k ((l.take k).flatMap peV) rfl (HU.out.alloc _) _ 1 (peV x) rfl (reads_one (us := peV x) rfl (Nat.succ_pos 9)) (peV_one1 x) (by omega) (by omega) (by have := HW.out; simp; omega) (B + 1) wr ((Below.refl _ _).alloc HW.out _) (Nat.le_refl _) ?_; intro v7 w7 o7 b7)
    have hP7 : BlockIs w7 B [.int .i64 z, .slice (some ⟨b, o, none⟩) l.length c] 112 := by
     show w7.heap[B]? = _
     rw [b7.block B (by omega)]; exact HP.out
    go_roundw
    case rel => exact ⟨k + 1, by omega, by go_num, by show _ ≤ _; omega, by rw [HS.out, HFl.out]; exact o7, hP7, HB.out.trans (b7.mono (by have := HBw.out; omega))⟩
    case measure => simp [intOf]; omega
   ·obtain rfl : k = l.length := by omega
    have hT : l.take z.toNat = l.take l.length := by rw [List.take_of_length_le (by omega), List.take_length]
    have HT := zh hT
    have hlen : (l.take l.length).length = l.length := by rw [List.take_length]
    have HRd : Hid (∀ (r : Value) (W : World), W.ownsRow (B + 1) 52 10 r l.length ((l.take l.length).flatMap peV) → ReadsL peV 10 W r (l.take l.length)) := fun r W ho => owns_readsL (by rw [hlen]; exact ho)
    have q6 : decide ((l.length : Int) < (l.length : Int)) = false := decide_eq_false (by omega)
    clear hT hlen hlt h3
    go_wp2_with fail
    go_ret
    exact ⟨_, rfl, by rw [HT.out]; exact HRd.out _ _ HU.out, HB.out⟩
  ·have q5 : decide ((k : Int) < z) = false := decide_eq_false hkz
   have hkk : z.toNat = k := by have := HZ.out; omega
   have hlen : (l.take k).length = k := by rw [List.length_take]; omega
   have HT : Hid (l.take z.toNat = l.take k) := by show _ = _; rw [hkk]
   have HRd : Hid (∀ (r : Value) (W : World), W.ownsRow (B + 1) 52 10 r k ((l.take k).flatMap peV) → ReadsL peV 10 W r (l.take k)) := fun r W ho => owns_readsL (by rw [hlen]; exact ho)
   clear hkk hlen h3
   go_wp2_with fail
   go_ret
   exact ⟨_, rfl, by rw [HT.out]; exact HRd.out _ _ HU.out, HB.out⟩
set_option maxHeartbeats 8000000 in
theorem refShJoin_any (v : Value) (ss : List Sh) (w : World) (h : ReadsSh w v ss) (hs : ∀ s ∈ ss, s.l.length ≤ 1000000) (hl : ∀ k, ((ss.take k).flatMap pesS).length ≤ 1000000) :
  Calls Tryz.prog 58 #[v] w fun e w' => ∃ r, e = .returned r ∧ ReadsL peV 10 w' r (pstL (ss.flatMap pesS)) ∧ Below w.heap.size w w' := by
 obtain ⟨hm, a0, c, rfl, h3⟩ := shs_open h.1
 obtain ⟨HV, HL⟩ := zh2 h hl
 clear h hl
 have HMade : Hid ((w.alloc (.cells #[] 52)).ownsRow w.heap.size 52 10 (.slice (some ⟨w.heap.size, 0, none⟩) 0 0) 0 []) := own_made rfl (Nat.le_refl _)
 have HB0 : Hid (Below w.heap.size w (w.alloc (.cells #[] 52))) := (Below.refl _ _).alloc (Nat.le_refl _) _
 go_enter Tryz.func58, Tryz.ntmps58
 go_wp2_with fail
 go_loopw [3, 4] (fun u' i' wr => ∃ k : Nat, k ≤ ss.length ∧ i' = .int .i64 k ∧ Hid (wr.ownsRow w.heap.size 52 10 u' ((ss.take k).flatMap pesS).length (((ss.take k).flatMap pesS).flatMap peV)) ∧ Hid (Below w.heap.size w wr)) (fun _ i' _ => ss.length - (intOf i').toNat)
 case atStart => exact ⟨0, by omega, rfl, HMade.out, HB0.out⟩
 case round =>
  clear HMade HB0
  obtain ⟨k, hk, rfl, HU, HB⟩ := hrel
  by_cases hlt : k < ss.length
  ·obtain ⟨⟨z, y, m⟩, hx⟩ : ∃ x, ss[k]? = some x := ⟨_, List.getElem?_eq_getElem hlt⟩
   obtain ⟨b, o, rfl, h4, h5, h6⟩ := h3 (by omega)
   obtain ⟨c0, c1⟩ := h6 k _ hx
   have k0 := keep HB.out h5 c0; have k1 := keep HB.out h5 c1
   have hmem := List.mem_of_getElem? hx
   have hrd := HV.out.2 _ hmem
   have hml := hs _ hmem
   simp only at k0 k1 hrd hml
   have q1 : (0 : Int) ≤ (k : Int) := by omega
   have q2 : (k : Int) < (ss.length : Int) := by omega
   have hS : (ss.take (k + 1)).flatMap pesS = (ss.take k).flatMap pesS ++ m.take z.toNat := by rw [List.take_add_one, hx, Option.toList_some, List.flatMap_append]; simp [pesS]
   have hll := HL.out (k + 1)
   rw [hS, List.length_append] at hll
   have HS := zh hS
   have hP := fun W (hW : Below w.heap.size w W) => refShPeers_any z y m W (ReadsL.below hrd hW) hml
   generalize m.take z.toNat = q at hP HS hll
   have HP := zh hP
   obtain ⟨hmm, pm, cm, rfl, -⟩ := pes_open hrd
   clear hx h6 h3 c0 c1 hmem hrd hS hs hP
   go_wp2_with (first
    | (go_at_call 80; (with_reducible refine (HP.out _ HB.out).mono ?_); rintro e w6 ⟨r6, rfl, rd6, b6⟩; obtain ⟨hm6, p6, c6, rfl, -⟩ := pes_open rd6; have HB6 : Hid (Below wr.heap.size wr w6) := b6)
    | (at_builtin; refine list_app_reads peRow rfl (.tmp 12) (.tmp 17) rfl w.heap.size _ ((ss.take k).flatMap pesS).length (((ss.take k).flatMap pesS).flatMap peV) rfl (owns_below HU.out HB6.out) _ q.length (q.flatMap peV) rfl rd6 (peV_ones _) (by omega) (by omega) (Nat.le_trans HB.out.size HB6.out.size) w.heap.size w6 (Below.refl _ _) (Nat.le_refl _) ?_; intro v7 w7 o7 b7; rw [← List.length_append, ← List.flatMap_append, ← HS.out] at o7))
   go_roundw
   case rel => exact ⟨k + 1, by omega, by go_num, o7, (HB.out.trans (HB6.out.mono HB.out.size)).trans b7⟩
   case measure => simp [intOf]; omega
  ·obtain rfl : k = ss.length := by omega
   have hTk : ss.take ss.length = ss := List.take_length
   have hll := HL.out ss.length
   rw [hTk] at HU hll
   obtain ⟨AL, hAL⟩ : ∃ AL, AL = ss.flatMap pesS := ⟨_, rfl⟩
   rw [← hAL] at HU hll
   have HAL := zh hAL
   have HSo := zh (refTsorted_any _ _ wr (owns_readsL HU.out) hll)
   clear hTk h3 hs hAL
   obtain ⟨g, cc, rfl⟩ := owns_slice HU.out
   go_wp2_with (go_at_call 81; (with_reducible refine HSo.out.mono ?_); rintro e w6 ⟨r6, rfl, rd6, b6⟩)
   go_ret
   exact ⟨_, rfl, by rw [← HAL.out]; exact rd6, below2 HB.out b6⟩
def zSh : Sh := ⟨0, .slice none 0 0, []⟩
/-- every part's row is the call's own, and no two lie in one block -/
def ShState (w : World) (base : Nat) (ss : List Sh) : Prop := (∀ s ∈ ss, w.ownsRow base 52 10 s.v s.l.length (s.l.flatMap peV)) ∧ ∀ (i j : Nat) (s t : Sh), i ≠ j → ss[i]? = some s → ss[j]? = some t → ApartV s.v t.v
theorem ShState.below {w w' : World} {base : Nat} {ss : List Sh} (h : ShState w base ss) (hb : Below w.heap.size w w') : ShState w' base ss := ⟨fun s hs => owns_below (h.1 s hs) hb, h.2⟩
theorem ShState.grow {w w7 : World} {base j k : Nat} {ss : List Sh} {s : Sh} {z : Int} {v7 : Value} {l7 : List Pe} (h : ShState w base ss) (hj : ss[j]? = some s) (hg : w.grownBy w7 s.v.ownBlock)
  (ho : w7.ownsRow base 52 10 v7 l7.length (l7.flatMap peV)) (hk : w.heap.size ≤ k) (ha : v7.ownBlock = s.v.ownBlock ∨ v7.ownBlock = some k) : ShState w7 base (ss.set j ⟨z, v7, l7⟩) := by
 have hjl := (List.getElem?_eq_some_iff.1 hj).1
 have old : ∀ i t, i ≠ j → (ss.set j ⟨z, v7, l7⟩)[i]? = some t → ss[i]? = some t := fun i t hne hi => by rwa [List.getElem?_set_ne (fun e => hne e.symm)] at hi
 have new : ∀ t, (ss.set j ⟨z, v7, l7⟩)[j]? = some t → t = ⟨z, v7, l7⟩ := fun t hi => by rw [List.getElem?_set_self hjl] at hi; injection hi with hi; exact hi.symm
 have far : ∀ i t, i ≠ j → ss[i]? = some t → ApartV v7 t.v := fun i t hne hi => apart_new (h.2 j i s t (fun e => hne e.symm) hj hi) (h.1 t (List.mem_of_getElem? hi)) hk ha
 refine ⟨fun t ht => ?_, fun a b s1 t1 hab h1 h2 => ?_⟩
 ·obtain ⟨i, hi⟩ := List.mem_iff_getElem?.1 ht
  by_cases e : i = j
  ·subst e; rw [new t hi]; exact ho
  ·have hi' := old i t e hi
   exact owns_apart (h.1 t (List.mem_of_getElem? hi')) hg fun g a b => h.2 i j t s e hi' hj g a b
 ·by_cases e1 : a = j
  ·subst e1
   rw [new s1 h1]
   exact far b t1 (fun e => hab e.symm) (old b t1 (fun e => hab e.symm) h2)
  ·by_cases e2 : b = j
   ·subst e2
    rw [new t1 h2]
    exact (far a s1 e1 (old a s1 e1 h1)).symm
   ·exact h.2 a b s1 t1 hab (old a s1 e1 h1) (old b t1 e2 h2)
theorem owns_neB {w : World} {base n size g : Nat} {e : TypeId} {v : Value} {xs : List Value} (h : w.ownsRow base e size v n xs) (hg : g < base) : v.ownBlock ≠ some g := by
 intro he
 have := (h.lt g he).1
 omega
theorem ShState.set {w : World} {base U i : Nat} {ss : List Sh} {us : List Value} {T : TypeId} (h : ShState w base ss) (hb : BlockIs w U us T) (hU : U < base) (x : Value) : ShState (w.setCell ⟨U, i, none⟩ x) base ss :=
 ⟨fun s hs => owns_setB (h.1 s hs) hb (owns_neB (h.1 s hs) hU), h.2⟩
theorem ShState.resize {w : World} {base j : Nat} {ss : List Sh} {s : Sh} (h : ShState w base ss) (hj : ss[j]? = some s) (z : Int) : ShState w base (ss.set j ⟨z, s.v, s.l⟩) :=
 h.grow hj ⟨rfl, rfl, rfl, Nat.le_refl _, fun _ _ _ => rfl⟩ (h.1 s (List.mem_of_getElem? hj)) (Nat.le_refl _) (Or.inl rfl)
theorem sh_set_v : ∀ (ss : List Sh) (j : Nat) (s : Sh) (v : Value), ss[j]? = some s → (ss.flatMap shV).set (j * 2 + 1) v = (ss.set j ⟨s.size, v, s.l⟩).flatMap shV
 | a :: r, 0, s, v, h => by
  simp only [List.getElem?_cons_zero, Option.some.injEq] at h
  subst h; rfl
 | a :: r, j + 1, s, v, h => by
  have ih := sh_set_v r j s v (by simpa using h)
  rw [List.set_cons_succ, List.flatMap_cons, List.flatMap_cons, ← ih, show (j + 1) * 2 + 1 = (j * 2 + 1) + 1 + 1 by omega]
  rfl
theorem sh_set_z : ∀ (ss : List Sh) (j : Nat) (s : Sh) (z : Int), ss[j]? = some s → (ss.flatMap shV).set (j * 2) (.int .i64 z) = (ss.set j ⟨z, s.v, s.l⟩).flatMap shV
 | a :: r, 0, s, z, h => by
  simp only [List.getElem?_cons_zero, Option.some.injEq] at h
  subst h; rfl
 | a :: r, j + 1, s, z, h => by
  have ih := sh_set_z r j s z (by simpa using h)
  rw [List.set_cons_succ, List.flatMap_cons, List.flatMap_cons, ← ih, show (j + 1) * 2 = j * 2 + 1 + 1 by omega]
  rfl
theorem sh_cell : ∀ (ss : List Sh) (j : Nat) (s : Sh), ss[j]? = some s → (ss.flatMap shV)[j * 2]? = some (.int .i64 s.size) ∧ (ss.flatMap shV)[j * 2 + 1]? = some s.v
 | a :: r, 0, s, h => by
  simp only [List.getElem?_cons_zero, Option.some.injEq] at h
  subst h; exact ⟨rfl, rfl⟩
 | a :: r, j + 1, s, h => by
  have ih := sh_cell r j s (by simpa using h)
  rw [List.flatMap_cons, show (j + 1) * 2 = (j * 2) + 1 + 1 by omega]
  exact ih
theorem sh_flat_l : ∀ (ss : List Sh) (j : Nat) (z : Int) (v : Value) (l1 l2 : List Pe), (ss.set j ⟨z, v, l1⟩).flatMap shV = (ss.set j ⟨z, v, l2⟩).flatMap shV
 | [], _, _, _, _, _ => rfl
 | a :: r, 0, z, v, l1, l2 => rfl
 | a :: r, j + 1, z, v, l1, l2 => by rw [List.set_cons_succ, List.set_cons_succ, List.flatMap_cons, List.flatMap_cons, sh_flat_l r j z v l1 l2]
/-- the peers of a part -/
def partL (l : List Pe) (s : Nat) (n : Int) (i : Nat) : List Pe := l.filter fun p => decide (ofN p.en.ad s n = i)
def PartsOf (ss : List Sh) (l : List Pe) (s : Nat) (n : Int) : Prop := ss.length = partsN n ∧ ∀ (i : Nat) (x : Sh), ss[i]? = some x → x.size = ((partL l s n i).length : Int) ∧ x.l = partL l s n i
theorem partL_snoc {l : List Pe} {s : Nat} {n : Int} {i k : Nat} {x : Pe} (hx : l[k]? = some x) : partL (l.take (k + 1)) s n i = if ofN x.en.ad s n = i then partL (l.take k) s n i ++ [x] else partL (l.take k) s n i := by
 unfold partL
 rw [filt_snoc _ _ _ _ hx]
 by_cases h : ofN x.en.ad s n = i <;> simp [h]
theorem partL_len (l : List Pe) (s : Nat) (n : Int) (i : Nat) : (partL l s n i).length ≤ l.length := List.length_filter_le _ _
theorem parts_step {ss : List Sh} {l : List Pe} {s : Nat} {n : Int} {k j : Nat} {x : Pe} {v : Value} {y : Sh} (h : PartsOf ss (l.take k) s n) (hx : l[k]? = some x) (hj : j = ofN x.en.ad s n) (hy : ss[j]? = some y) :
  PartsOf (ss.set j ⟨y.size + 1, v, y.l ++ [x]⟩) (l.take (k + 1)) s n := by
 have hjl := (List.getElem?_eq_some_iff.1 hy).1
 refine ⟨by simpa using h.1, fun i t hi => ?_⟩
 rw [partL_snoc hx]
 by_cases e : i = j
 ·subst e
  rw [List.getElem?_set_self hjl] at hi
  injection hi with hi
  subst hi
  obtain ⟨h1, h2⟩ := h.2 i y hy
  rw [if_pos hj.symm]
  refine ⟨?_, by rw [h2]⟩
  simp only [List.length_append, List.length_singleton]
  omega
 ·rw [List.getElem?_set_ne (fun e' => e e'.symm)] at hi
  rw [if_neg (fun e' => e (by omega))]
  exact h.2 i t hi
theorem parts_none (s : Nat) (n : Int) : PartsOf (List.replicate (partsN n) zSh) [] s n := by
 refine ⟨by simp, fun i x hx => ?_⟩
 rw [List.getElem?_replicate] at hx
 split at hx
 ·injection hx with hx; subst hx; exact ⟨rfl, rfl⟩
 ·cases hx
theorem state_none (w : World) (base m : Nat) : ShState w base (List.replicate m zSh) := by
 refine ⟨fun s hs => ?_, fun i j s t _ h1 _ => ?_⟩
 ·rw [List.eq_of_mem_replicate hs]; exact World.ownsRow_nil _ _ _ _
 ·rw [List.eq_of_mem_replicate (List.mem_of_getElem? h1)]; exact apart_nil _
theorem made_pair (x y : Value) (hx : x.cells = #[x]) (hy : y.cells = #[y]) (m : Nat) : madeCells (Value.agg #[x, y]).cells (m * 2) = ((List.replicate m [x, y]).flatten).toArray := by
 have hc : (Value.agg #[x, y]).cells = #[x, y] := by simp [Value.cells, hx, hy]
 rw [hc]
 apply Array.ext'
 apply List.ext_getElem?
 intro j
 have hflat : ∀ m j : Nat, ((List.replicate m [x, y]).flatten)[j]? = if j < m * 2 then some (if j % 2 = 0 then x else y) else none := by
  intro m
  induction m with
  | zero => intro j; simp
  | succ m ih =>
   intro j
   rw [List.replicate_succ, List.flatten_cons]
   match j with
   | 0 => rw [if_pos (by omega)]; rfl
   | 1 => rw [if_pos (by omega)]; rfl
   | j + 2 =>
    show ((List.replicate m [x, y]).flatten)[j]? = _
    rw [ih, Nat.add_mod_right]
    by_cases h : j < m * 2
    ·have h' : j + 2 < (m + 1) * 2 := by omega
     rw [if_pos h, if_pos h']
    ·have h' : ¬ j + 2 < (m + 1) * 2 := by omega
     rw [if_neg h, if_neg h']
 rw [hflat]
 by_cases h : j < m * 2
 ·rw [if_pos h]
  simp only [madeCells, Array.toList_map, Array.toList_range, List.getElem?_map, List.getElem?_range h, Option.map_some]
  congr 1
  have : j % 2 = 0 ∨ j % 2 = 1 := by omega
  rcases this with e | e <;> simp [e]
 ·rw [if_neg h]
  exact List.getElem?_eq_none (by simp [madeCells]; omega)
theorem run_make_sh (m : Nat) (h : 1 ≤ m ∧ m ≤ 8) (W : World) : (Instr.makeSlice 37 (.int .i64 m) (.int .i64 m)).run Tryz.prog W = .ok (.slice (some ⟨W.heap.size, 0, none⟩) m m) (W.alloc (.cells ((List.replicate m zSh).flatMap shV).toArray 112)) := by
 obtain ⟨i, hi, hz0, hz1, hz2⟩ := info_parts (show (Tryz.prog.info? 112).map (fun i => (i.zero, i.size, i.bytes)) = some (some (.agg #[.int .i64 0, .slice none 0 0]), 2, 32) by kernel_rfl)
 have := run_make (P := Tryz.prog) W 37 112 i (.agg #[.int .i64 0, .slice none 0 0]) Tryz.underlying37 hi hz0 .i64 .i64 m m (by omega) (by omega) (by rw [hz2]; omega) (by omega)
 have e1 : ((m : Nat) : Int).toNat = m := by omega
 have e2 : madeCells (Value.agg #[.int .i64 0, .slice none 0 0]).cells (m * 2) = ((List.replicate m zSh).flatMap shV).toArray := by
  rw [made_pair _ _ (by simp [Value.cells]) (by simp [Value.cells]), List.flatMap_replicate]; rfl
 rw [this, e1, hz1, e2]
set_option maxHeartbeats 16000000 in
theorem shSplit_firm (v : Value) (l : List Pe) (s : Nat) (hs : s < 18446744073709551616) (n : Int) (w : World) (h : ReadsL peV 10 w v l) (hf : ∀ p ∈ l, p.en.ad.fits) (hl : l.length ≤ 1000000) :
  Calls Tryz.prog 29 #[v, .int .u64 s, .int .i64 n] w fun e w' => ∃ r ss, e = .returned r ∧ (∀ W, (∀ b arr T, w.heap.size ≤ b → BlockIs w' b arr T → BlockIs W b arr T) → ReadsSh W r ss) ∧ PartsOf ss l s n ∧ Below w.heap.size w w' := by
 obtain ⟨hm, a0, c, rfl, h3⟩ := pes_open h
 clear h
 have HPa := zh (fun W => shParts_any n W)
 have hmi := partsN_in n
 have hmk := fun W => run_make_sh (partsN n) hmi W
 have HB0 : Hid (Below w.heap.size w (w.alloc (.cells ((List.replicate (partsN n) zSh).flatMap shV).toArray 112))) := (Below.refl _ _).alloc (Nat.le_refl _) _
 have HBk : Hid (BlockIs (w.alloc (.cells ((List.replicate (partsN n) zSh).flatMap shV).toArray 112)) w.heap.size ((List.replicate (partsN n) zSh).flatMap shV) 112) := BlockIs.new w _ _
 have HPn := zh (parts_none s n)
 have HSt := zh (state_none (w.alloc (.cells ((List.replicate (partsN n) zSh).flatMap shV).toArray 112)) (w.heap.size + 1) (partsN n))
 obtain ⟨m, hmm⟩ : ∃ m, m = partsN n := ⟨_, rfl⟩
 have HM := zh hmm
 rw [← hmm] at HPa hmi hmk HB0 HBk HPn HSt
 clear hmm
 obtain ⟨g, hg⟩ : ∃ g, g = w.heap.size := ⟨_, rfl⟩
 have HG := zh hg
 rw [← hg] at HBk HSt
 go_enter Tryz.func29, Tryz.ntmps29
 go_wp2_with (go_at_call 64; (with_reducible refine (HPa.out _).mono ?_); rintro e w' ⟨rfl, rfl⟩)
 rw [← hg]
 clear hmk hg
 go_loopw [10, 16] (fun _ i' wr => ∃ (k : Nat) (ss : List Sh), k ≤ l.length ∧ i' = .int .i64 k ∧ Hid (BlockIs wr g (ss.flatMap shV) 112) ∧ Hid (PartsOf ss (l.take k) s n) ∧ Hid (ShState wr (g + 1) ss) ∧ Hid (Below w.heap.size w wr)) (fun _ i' _ => l.length - (intOf i').toNat)
 case atStart => exact ⟨0, _, by omega, rfl, HBk.out, HPn.out, HSt.out, HB0.out⟩
 case round =>
  clear HB0 HBk HPn HSt
  obtain ⟨k, ss, hk, rfl, HK, HP, HS, HB⟩ := hrel
  by_cases hlt : k < l.length
  ·obtain ⟨x, hx⟩ : ∃ x, l[k]? = some x := ⟨_, List.getElem?_eq_getElem hlt⟩
   obtain ⟨b, o, rfl, h4, h5, h6⟩ := h3 (by omega)
   have KX := (h6 k x hx).below HB.out h5
   obtain ⟨k0, k1, k2, k3, k4, k5, k6, k7, k8, k9⟩ := KX
   have q1 : (0 : Int) ≤ (k : Int) := by omega
   have q2 : (k : Int) < (l.length : Int) := by omega
   have hfx := hf x (List.mem_of_getElem? hx)
   have hO := fun W => shOf_any x.en.ad hfx s hs n W
   obtain ⟨j, hj⟩ : ∃ j, j = ofN x.en.ad s n := ⟨_, rfl⟩
   have hjm : j < m := by rw [hj, HM.out]; exact ofN_lt _ _ _
   rw [← hj] at hO
   have HO := zh hO
   obtain ⟨y, hy⟩ : ∃ y, ss[j]? = some y := ⟨_, List.getElem?_eq_getElem (by have := HP.out.1; have := HM.out; omega)⟩
   have hPS := fun vv => parts_step (v := vv) HP.out hx hj hy
   have hyl : y.l.length ≤ k := by
    rw [(HP.out.2 j y hy).2]
    exact Nat.le_trans (partL_len _ _ _ _) (by rw [List.length_take]; omega)
   have hysz : y.size = (y.l.length : Int) := by rw [(HP.out.2 j y hy).1, (HP.out.2 j y hy).2]
   have HNX : Hid (y.v.ownBlock ≠ some wr.heap.size) := fun e => absurd ((HS.out.1 y (List.mem_of_getElem? hy)).lt _ e).2 (Nat.lt_irrefl _)
   obtain ⟨HPS, HY⟩ := zh2 hPS hy
   clear hx h6 hO hj hPS h3 hy
   go_upto_region 5 with (refine list_store_blk rfl 52 _ _ rfl (wr.heap.size) _ _ 52 (BlockIs.newAt' _ _ _ (by simp)) rfl rfl (by kernel_rfl) rfl (by simp [Value.oneCell']) wr.heap.size wr (by exact bel) (Nat.le_refl _) ?_; intro W5 hP hoth hsz b5; clear hoth hsz; dsimp only [Act.put])
   clear k0 k1 k2 k3 k4 k5 k6 k7 k8 k9
   have HB5 := zh (HB.out.trans (b5.mono HB.out.size))
   have HK5 := zh (HK.out.below b5); have HS5 := zh (HS.out.below b5)
   have hgw : g < wr.heap.size := HK.out.lt
   have HX5 := zh hP
   obtain ⟨X, hX⟩ : ∃ X, X = wr.heap.size := ⟨_, rfl⟩
   rw [← hX] at HX5 hP hgw HNX
   try rw [← hX]
   obtain ⟨x0, x1, x2⟩ := hP.e3
   have p1 : (0 : Int) ≤ (j : Int) := by omega
   have p2 : (j : Int) < (m : Int) := by omega
   clear hP b5 hX HK HS HB HP
   go_upto_region 6 with (go_at_call 65; (with_reducible refine (HO.out _).mono ?_); rintro e W6 ⟨rfl, b6⟩)
   have HB6 := zh (below2 HB5.out b6)
   have HK6 := zh (HK5.out.below b6); have HS6 := zh (HS5.out.below b6)
   have hX6 := HX5.out.below b6
   have lX := hX6.lt; have lG := HK6.out.lt
   clear x0 x1 x2 b6 HB5 HK5 HS5 HX5 HO
   obtain ⟨x0, x1, x2, x3, x4, x5, x6, x7, x8, x9⟩ := hX6.e10
   have hc := sh_cell ss j y HY.out
   have s1 := HK6.out.cell hc.2; have s0 := HK6.out.cell hc.1
   have sf := HK6.out.frozen
   have HOy := zh (HS6.out.1 y (List.mem_of_getElem? HY.out))
   have HNE := zh (owns_neB HOy.out (Nat.lt_succ_self g))
   have HX6 : Hid (BlockIs W6 X (peV x) 52) := hX6
   clear hX6 hc
   obtain ⟨ysz, yv, yl⟩ := y
   simp only at hysz hyl s0 s1 HOy HNE HPS
   have hw1 : IntKind.i64.wrap (ysz + 1) = ysz + 1 := by rw [IntKind.wrap_i64]; omega
   clear hysz
   obtain ⟨ga, cy, rfl⟩ := owns_slice HOy.out
   have nXg : X ≠ g := by omega
   have nGX : g ≠ X := by omega
   go_region_law (first | (refine step_app_reads_at peRow (by rfl) (.tmp 32) (.tmp 34) (by rfl) (g + 1) (.slice ga yl.length cy) yl.length (yl.flatMap peV) (by rfl) (by (repeat (first | (with_reducible exact HOy.out) | (with_reducible refine World.ownsRow.alloc ?_ _) | (with_reducible refine World.ownsRow.drew ?_))); done) _ 1 (peV x) (by rfl) (reads_blk (B := W6.heap.size) (T := 52) (by (repeat (first | (with_reducible refine BlockIs.drew' ?_) | ((refine BlockIs.newAt' _ _ _ ?_); (first | rfl | (simp; done))))); done) rfl (Nat.succ_pos 9)) (peV_one1 x) (by omega) (by omega) (by first | omega | (simp; omega)) ?_; intro v7 w7 o7 g7 a7; obtain ⟨gv, cv, rfl⟩ := owns_slice o7; have hK7 : BlockIs w7 g (ss.flatMap shV) 112 := blk_grown (by (repeat (first | (with_reducible exact HK6.out) | (with_reducible refine BlockIs.alloc' ?_ _) | (with_reducible refine BlockIs.drew' ?_))); done) g7 HNE.out; have hX7 : BlockIs w7 X (peV x) 52 := blk_grown (by (repeat (first | (with_reducible exact HX6.out) | (with_reducible refine BlockIs.alloc' ?_ _) | (with_reducible refine BlockIs.drew' ?_))); done) g7 HNX.out; have sf7 := hK7.frozen; obtain ⟨dX0, dX1, dX2, dX3, dX4, dX5, dX6, dX7, dX8, dX9⟩ := peIn_box hX7; simp only [Nat.zero_add] at dX0 dX1 dX2 dX3 dX4 dX5 dX6 dX7 dX8 dX9; have s70 := hK7.cell (sh_cell ss j _ HY.out).1; have s71 := hK7.cell (sh_cell ss j _ HY.out).2; dsimp only at s70 s71) | fail)
   all_goals
    go_upto_region 7 with fail
    go_name_world W8 hW8
    have hb7 : Below (g + 1) W6 w7 := below_grown (base := g + 1) (e := 52) (size := 10) (v := .slice ga yl.length cy) (n := yl.length) (xs := yl.flatMap peV) (by (repeat (first | (with_reducible exact HOy.out) | (with_reducible refine World.ownsRow.alloc ?_ _) | (with_reducible refine World.ownsRow.drew ?_))); done) (by exact bel) (Nat.le_refl _) (by first | omega | (simp; omega)) g7
    have hS7 : ShState w7 (g + 1) (ss.set j ⟨ysz, .slice gv (yl.length + 1) cv, yl ++ [x]⟩) := ShState.grow (HS6.out.below (by exact bel)) HY.out g7 (by rw [show (yl ++ [x]).length = yl.length + 1 by simp, show (yl ++ [x]).flatMap peV = yl.flatMap peV ++ peV x by rw [List.flatMap_append]; simp]; exact o7) (Nat.le_refl _) a7
    have hK8 := hK7.set (j * 2 + 1) (.slice gv (yl.length + 1) cv)
    rw [sh_set_v ss j _ _ HY.out] at hK8
    have hS8 := hS7.set (i := j * 2 + 1) hK7 (Nat.lt_succ_self g) (.slice gv (yl.length + 1) cv)
    have hB8 : Below w.heap.size w (w7.setCell ⟨g, j * 2 + 1, none⟩ (.slice gv (yl.length + 1) cv)) := (HB6.out.trans (hb7.mono (by have := HG.out; omega))).setCell (by have := HG.out; show _ ≤ g; omega) _
    rw [hW8] at hK8 hS8 hB8
    have hj' : (ss.set j ⟨ysz, .slice gv (yl.length + 1) cv, yl⟩)[j]? = some ⟨ysz, .slice gv (yl.length + 1) cv, yl⟩ := List.getElem?_set_self (List.getElem?_eq_some_iff.1 HY.out).1
    have hj2 : (ss.set j ⟨ysz, .slice gv (yl.length + 1) cv, yl ++ [x]⟩)[j]? = some ⟨ysz, .slice gv (yl.length + 1) cv, yl ++ [x]⟩ := List.getElem?_set_self (List.getElem?_eq_some_iff.1 HY.out).1
    have s80 := hK8.cell (sh_cell _ j _ hj').1
    dsimp only at s80
    have sf8 := hK8.frozen
    have lG8 := hK8.lt
    obtain ⟨HK8, HS8, HB8, HJ1, HJ2⟩ := zh5 hK8 hS8 hB8 hj' hj2
    clear hW8 hb7 hS7 hK8 hS8 hB8 hj' hj2 dX0 dX1 dX2 dX3 dX4 dX5 dX6 dX7 dX8 dX9 s70 s71 sf7 o7 g7 a7 hK7 hX7 x0 x1 x2 x3 x4 x5 x6 x7 x8 x9 s0 s1 sf HX6 HK6 HS6 HB6
    go_upto_region 8 with fail
    go_name_world W9 hW9
    have hK9 := HK8.out.set (j * 2) (.int .i64 (ysz + 1))
    rw [sh_set_z _ j _ _ HJ1.out, List.set_set] at hK9
    have hS9 := (HS8.out.resize HJ2.out (ysz + 1)).set (i := j * 2) HK8.out (Nat.lt_succ_self g) (.int .i64 (ysz + 1))
    rw [List.set_set] at hS9
    have hB9 : Below w.heap.size w (W8.setCell ⟨g, j * 2, none⟩ (.int .i64 (ysz + 1))) := HB8.out.setCell (by have := HG.out; show _ ≤ g; omega) _
    rw [hW9] at hK9 hS9 hB9
    rw [sh_flat_l _ _ _ _ _ (yl ++ [x])] at hK9
    obtain ⟨HK9, HS9, HB9⟩ := zh3 hK9 hS9 hB9
    clear hW9 hK9 hS9 hB9 s80 sf8 HK8 HS8 HB8
    go_wp2_with fail
    go_roundw
    case rel => exact ⟨k + 1, _, by omega, by go_num, HK9.out, HPS.out _, HS9.out, HB9.out⟩
    case measure => simp [intOf]; omega
  ·obtain rfl : k = l.length := by omega
   have hTk : l.take l.length = l := List.take_length
   rw [hTk] at HP
   have hlen : ss.length = m := by rw [HP.out.1, HM.out]
   have hR : ∀ W, (∀ b arr T, w.heap.size ≤ b → BlockIs wr b arr T → BlockIs W b arr T) → ReadsSh W (.slice (some ⟨g, 0, none⟩) m m) ss := fun W hk => by
    rw [← hlen]
    have hgw := HG.out
    refine ⟨reads_blkC (hk _ _ _ (by omega) HK.out) (by rw [hlen]; omega) (by rw [hlen]; omega) ?_, fun t ht => owns_readsL (owns_held (HS.out.1 t ht) fun b arr hb hB => hk b arr _ (by omega) hB)⟩
    rw [List.length_flatMap]
    rw [show (List.map (fun a => (shV a).length) ss) = List.replicate ss.length 2 by rw [List.eq_replicate_iff]; simp [shV]]
    simp
   have HR := zh hR
   clear hR hTk hlen h3
   go_wp2_with fail
   go_ret
   exact ⟨_, ss, rfl, HR.out, HP.out, HB.out⟩

/-- the same sizes, the same peers -/
def AlikeS (A B : List Sh) : Prop := A.length = B.length ∧ ∀ (i : Nat) (x y : Sh), A[i]? = some x → B[i]? = some y → x.size = y.size ∧ x.l = y.l
set_option maxHeartbeats 16000000 in
theorem parts_same (u v : Value) (A B : List Sh) (w : World) (h1 : ReadsSh w u A) (h2 : ReadsSh w v B) (hE : AlikeS A B) :
  Calls Tryz.prog 37 #[u, v] w fun e w' => e = .returned (.bool true) ∧ Below w.heap.size w w' := by
 obtain ⟨hm, a0, c, rfl, h3⟩ := shs_open h1.1
 obtain ⟨hm2, a2, c2, rfl, h32⟩ := shs_open h2.1
 have HR1 := zh h1.2; have HR2 := zh h2.2; have HE := zh hE
 obtain ⟨n, hn⟩ : ∃ n, n = A.length := ⟨_, rfl⟩
 have hnB : B.length = n := by rw [hn]; exact hE.1.symm
 rw [← hn] at h3
 rw [hnB] at h32
 rw [← hn, hnB]
 rw [← hn] at hm
 obtain ⟨HN, HNB⟩ := zh2 hn hnB
 have mixed : Tryz.prog.follows .mixedOrders = true := by kernel_rfl
 clear h1 h2 hE hn hnB hm2
 go_enter Tryz.func37, Tryz.ntmps37
 go_wp2_with fail
 go_loopw [5] (fun i' wr => ∃ k : Nat, k ≤ n ∧ i' = .int .i64 k ∧ Hid (Below w.heap.size w wr)) (fun i' _ => n - (intOf i').toNat)
 case atStart => exact ⟨0, by omega, rfl, Below.refl _ _⟩
 case round =>
  obtain ⟨k, hk, rfl, HB⟩ := hrel
  by_cases hlt : k < n
  ·obtain ⟨⟨z, v1, L⟩, hx⟩ : ∃ x, A[k]? = some x := ⟨_, List.getElem?_eq_getElem (by have := HN.out; omega)⟩
   obtain ⟨⟨z2, v2, L2⟩, hy⟩ : ∃ x, B[k]? = some x := ⟨_, List.getElem?_eq_getElem (by have := HNB.out; omega)⟩
   obtain ⟨e1, e2⟩ := HE.out.2 k _ _ hx hy
   simp only at e1 e2
   subst e1 e2
   obtain ⟨b, o, rfl, h4, h5, h6⟩ := h3 (by omega)
   obtain ⟨b2, o2, rfl, h42, h52, h62⟩ := h32 (by omega)
   have hc1 := h6 k _ hx
   have hc2 := h62 k _ hy
   have hr1 := HR1.out _ (List.mem_of_getElem? hx)
   have hr2 := HR2.out _ (List.mem_of_getElem? hy)
   simp only at hc1 hc2 hr1 hr2
   obtain ⟨hmL, p1, d1, rfl, h3a⟩ := pes_open hr1
   obtain ⟨_, p2, d2, rfl, h3b⟩ := pes_open hr2
   have q1 : (0 : Int) ≤ (k : Int) := by omega
   have q2 : (k : Int) < (n : Int) := by omega
   obtain ⟨HC1, HC2, HLb, HLb2⟩ := zh4 hc1 hc2 h5 h52
   have f1 := fun y => (ext_cell wr y (p := ⟨b, o + k * 2, none⟩) (Nat.lt_of_lt_of_le h5 HB.out.size)).trans (keep HB.out h5 hc1.1)
   have f2 := fun y => (ext_cell wr y (p := ⟨b, o + k * 2 + 1, none⟩) (Nat.lt_of_lt_of_le h5 HB.out.size)).trans (keep HB.out h5 hc1.2)
   have f3 := fun y => (ext_cell wr y (p := ⟨b2, o2 + k * 2, none⟩) (Nat.lt_of_lt_of_le h52 HB.out.size)).trans (keep HB.out h52 hc2.1)
   have f4 := fun y => (ext_cell wr y (p := ⟨b2, o2 + k * 2 + 1, none⟩) (Nat.lt_of_lt_of_le h52 HB.out.size)).trans (keep HB.out h52 hc2.2)
   clear hx hy h6 h62 hc1 hc2 hr1 hr2 h3 h32 h5 h52
   go_wp2_with fail
   refine wp_region_ext (by kernel_rfl) (by kernel_rfl) ?_
   repeat (go_big_quiet_step (fail))
   refine wpQuiet_nil ?_
   intro _ hw'
   obtain ⟨gx, hw''⟩ := hw'
   subst hw''
   have HB1 := zh (below2 HB.out (ext_below wr gx))
   clear f1 f2 f3 f4 HB
   generalize Go.Proofs.YtnplgagaoeckoaaGreat.ext wr gx = wo at *
   go_wp2_with fail
   go_loopw [6] (fun i' wr => ∃ i : Nat, i ≤ L.length ∧ i' = .int .i64 i ∧ Hid (Below w.heap.size w wr)) (fun i' _ => L.length - (intOf i').toNat)
   case atStart => exact ⟨0, by omega, rfl, HB1.out⟩
   case round =>
    clear HB1
    obtain ⟨i, hi, rfl, HB⟩ := hrel
    have p1' : (0 : Int) ≤ (i : Int) := by omega
    have s1 := keep HB.out HLb.out HC1.out.1
    have s2 := keep HB.out HLb.out HC1.out.2
    have s3 := keep HB.out HLb2.out HC2.out.1
    have s4 := keep HB.out HLb2.out HC2.out.2
    by_cases hil : i < L.length
    ·obtain ⟨x, hx⟩ : ∃ x, L[i]? = some x := ⟨_, List.getElem?_eq_getElem hil⟩
     obtain ⟨b3, o3, rfl, h43, h53, h63⟩ := h3a (by omega)
     obtain ⟨b4, o4, rfl, h44, h54, h64⟩ := h3b (by omega)
     have p2' : (i : Int) < (L.length : Int) := by omega
     have KX : ∀ Y, PeIn (Go.Proofs.YtnplgagaoeckoaaGreat.ext wr Y) b3 (o3 + i * 10) x := fun Y => ((h63 i x hx).below HB.out h53).below (ext_below wr Y) (Nat.lt_of_lt_of_le h53 HB.out.size)
     have KY : ∀ Y, PeIn (Go.Proofs.YtnplgagaoeckoaaGreat.ext wr Y) b4 (o4 + i * 10) x := fun Y => ((h64 i x hx).below HB.out h54).below (ext_below wr Y) (Nat.lt_of_lt_of_le h54 HB.out.size)
     have f2 := fun y => (ext_cell wr y (p := ⟨b, o + k * 2 + 1, none⟩) (Nat.lt_of_lt_of_le HLb.out HB.out.size)).trans s2
     have f4 := fun y => (ext_cell wr y (p := ⟨b2, o2 + k * 2 + 1, none⟩) (Nat.lt_of_lt_of_le HLb2.out HB.out.size)).trans s4
     have x0 := fun y => (KX y).1; have x1 := fun y => (KX y).2.1; have x2 := fun y => (KX y).2.2.1; have x3 := fun y => (KX y).2.2.2.1; have x4 := fun y => (KX y).2.2.2.2.1; have x5 := fun y => (KX y).2.2.2.2.2.1; have x6 := fun y => (KX y).2.2.2.2.2.2.1; have x7 := fun y => (KX y).2.2.2.2.2.2.2.1; have x8 := fun y => (KX y).2.2.2.2.2.2.2.2.1; have x9 := fun y => (KX y).2.2.2.2.2.2.2.2.2
     have y0 := fun y => (KY y).1; have y1 := fun y => (KY y).2.1; have y2 := fun y => (KY y).2.2.1; have y3 := fun y => (KY y).2.2.2.1; have y4 := fun y => (KY y).2.2.2.2.1; have y5 := fun y => (KY y).2.2.2.2.2.1; have y6 := fun y => (KY y).2.2.2.2.2.2.1; have y7 := fun y => (KY y).2.2.2.2.2.2.2.1; have y8 := fun y => (KY y).2.2.2.2.2.2.2.2.1; have y9 := fun y => (KY y).2.2.2.2.2.2.2.2.2
     have hNE := fun W => neqPe_one x W
     clear hx h63 h64 KX KY h3a h3b
     go_wp2_with fail
     refine wp_region_ext (by kernel_rfl) (by kernel_rfl) ?_
     repeat (go_big_quiet_step (fail))
     refine wpQuiet_nil ?_
     intro _ hw'
     obtain ⟨gx, hw''⟩ := hw'
     subst hw''
     clear x0 x1 x2 x3 x4 x5 x6 x7 x8 x9 y0 y1 y2 y3 y4 y5 y6 y7 y8 y9 hNE f2 f4 s1 s2 s3 s4
     go_wp2_with fail
     go_roundw
     case rel => exact ⟨i + 1, by omega, by go_num, below2 HB.out (ext_below wr gx)⟩
     case measure => simp [intOf]; omega
    ·obtain rfl : i = L.length := by omega
     go_wp2_with fail
     go_roundw
     case rel => exact ⟨k + 1, by omega, by go_num, HB.out⟩
     case measure => simp [intOf]; omega
  ·obtain rfl : k = n := by omega
   go_wp2_with fail
   go_ret
   exact ⟨rfl, HB.out⟩
theorem shRow : RowT Tryz.prog 37 112 2 32 := RowT.mk (.agg #[.int .i64 0, .slice none 0 0]) Tryz.underlying37 (by kernel_rfl) rfl (by omega)
theorem apart_owns {w w' : World} {base base' n n' size size' : Nat} {e e' : TypeId} {u v : Value} {xs ys : List Value} (hu : w.ownsRow base e size u n xs) (hv : w'.ownsRow base' e' size' v n' ys) (h : w.heap.size ≤ base') : ApartV u v := by
 intro g a b
 have h1 := (hu.lt g a).2
 have h2 := (hv.lt g b).1
 omega
/-- the parts that stand in a row: each one's peers lie in a block of its own, apart from the row -/
def Stood (w : World) (base : Nat) (out : Value) (ss : List Sh) : Prop := ∀ s ∈ ss, w.ownsRow base 52 10 s.v s.l.length (s.l.flatMap peV) ∧ ApartV out s.v
theorem Stood.below {w w' : World} {base : Nat} {out : Value} {ss : List Sh} (h : Stood w base out ss) (hb : Below w.heap.size w w') : Stood w' base out ss := fun s hs => ⟨owns_below (h s hs).1 hb, (h s hs).2⟩
theorem Stood.put {w w' : World} {base k : Nat} {out out' : Value} {ss : List Sh} (h : Stood w base out ss) (hg : w.grownBy w' out.ownBlock) (hk : w.heap.size ≤ k) (ha : out'.ownBlock = out.ownBlock ∨ out'.ownBlock = some k) : Stood w' base out' ss :=
 fun s hs => ⟨owns_apart (h s hs).1 hg fun g a b => (h s hs).2 g b a, apart_new (h s hs).2 (h s hs).1 hk ha⟩
theorem Stood.snoc {w : World} {base : Nat} {out : Value} {ss : List Sh} {t : Sh} (h : Stood w base out ss) (ht : w.ownsRow base 52 10 t.v t.l.length (t.l.flatMap peV) ∧ ApartV out t.v) : Stood w base out (ss ++ [t]) := fun s hs => by
 rcases List.mem_append.1 hs with hs | hs
 ·exact h s hs
 ·rw [List.mem_singleton.1 hs]; exact ht
def partOf (l : List Pe) (s : Nat) (n : Int) (ss : List Sh) : Prop := ∀ (i : Nat) (x : Sh), ss[i]? = some x → x.size = ((partL l s n i).length : Int) ∧ x.l = partL l s n i
theorem partOf_snoc {l : List Pe} {s : Nat} {n : Int} {ss : List Sh} {v : Value} (h : partOf l s n ss) : partOf l s n (ss ++ [⟨((partL l s n ss.length).length : Int), v, partL l s n ss.length⟩]) := by
 intro i x hi
 rw [List.getElem?_append] at hi
 split at hi
 ·exact h i x hi
 ·rename_i hlt
  have : i - ss.length = 0 := by
   rcases Nat.eq_zero_or_pos (i - ss.length) with e | e
   ·exact e
   ·rw [List.getElem?_eq_none (by simp only [List.length_singleton]; omega)] at hi; cases hi
  rw [this] at hi
  have e : i = ss.length := by omega
  subst e
  simp only [List.getElem?_cons_zero, Option.some.injEq] at hi
  subst hi; exact ⟨rfl, rfl⟩
set_option maxHeartbeats 16000000 in
theorem refShSplit_firm (v : Value) (l : List Pe) (s : Nat) (hs : s < 18446744073709551616) (n : Int) (w : World) (h : ReadsL peV 10 w v l) (hf : ∀ p ∈ l, p.en.ad.fits) (hl : l.length ≤ 1000000) :
  Calls Tryz.prog 36 #[v, .int .u64 s, .int .i64 n] w fun e w' => ∃ r ss, e = .returned r ∧ (∀ W, (∀ b arr T, w.heap.size ≤ b → BlockIs w' b arr T → BlockIs W b arr T) → ReadsSh W r ss) ∧ PartsOf ss l s n ∧ Below w.heap.size w w' := by
 obtain ⟨hm, a0, c, rfl, h3⟩ := pes_open h
 clear h
 have HPa := zh (fun W => refParts_any n W)
 have hmi := partsN_in n
 obtain ⟨m, hmm⟩ : ∃ m, m = partsN n := ⟨_, rfl⟩
 have HM := zh hmm
 rw [← hmm] at HPa hmi
 clear hmm
 have HMade : Hid ((w.alloc (.cells #[] 112)).ownsRow w.heap.size 112 2 (.slice (some ⟨w.heap.size, 0, none⟩) 0 0) 0 []) := own_made rfl (Nat.le_refl _)
 have HB0 : Hid (Below w.heap.size w (w.alloc (.cells #[] 112))) := (Below.refl _ _).alloc (Nat.le_refl _) _
 go_enter Tryz.func36, Tryz.ntmps36
 go_wp2_with fail
 go_loopw [7, 8] (fun u' k' wr => ∃ ss : List Sh, ss.length ≤ m ∧ k' = .int .i64 ss.length ∧ Hid (wr.ownsRow w.heap.size 112 2 u' ss.length (ss.flatMap shV)) ∧ Hid (partOf l s n ss) ∧ Hid (Stood wr w.heap.size u' ss) ∧ Hid (Below w.heap.size w wr)) (fun _ k' _ => m - (intOf k').toNat)
 case atStart => exact ⟨[], by simp, rfl, HMade.out, fun i x hi => by simp at hi, fun s hs => by simp at hs, HB0.out⟩
 case round =>
  clear HMade HB0
  obtain ⟨ss, hk, rfl, HU, HP, HS, HB⟩ := hrel
  obtain ⟨wo, rfl⟩ : ∃ wo : World, wo = wr := ⟨_, rfl⟩
  obtain ⟨k, hkk⟩ : ∃ k, k = ss.length := ⟨_, rfl⟩
  have HKK := zh hkk
  rw [← hkk] at HU hk
  rw [← hkk]
  clear hkk
  by_cases hlt : k < m
  ·have q1 : (0 : Int) ≤ (k : Int) := by omega
   have q2 : (k : Int) < (m : Int) := by omega
   obtain ⟨D, hD⟩ : ∃ D, D = wo.heap.size := ⟨_, rfl⟩
   have HD := zh hD
   have HKb : Hid (BlockIs ((wo.alloc (.cells #[.int .i64 0, .slice none 0 0] 112))) D [.int .i64 0, .slice none 0 0] 112) := by subst hD; exact BlockIs.new wo [.int .i64 0, .slice none 0 0] _
   go_upto_region 6 with (go_at_call 66; (with_reducible refine (HPa.out _).mono ?_); rintro e w' ⟨rfl, rfl⟩)
   go_name_world W1 hW1
   have hK1 : BlockIs W1 D [.int .i64 0, .slice none 0 0] 112 := by subst hW1 hD; exact BlockIs.newAt' _ _ _ (by simp)
   have hB1 : Below wo.heap.size wo W1 := by subst hW1; exact bel
   rw [← hD]
   obtain ⟨HK1, HB1⟩ := zh2 hK1 hB1
   clear hW1 hK1 hB1 hD HKb
   go_wp2_with fail
   go_loopw [10] (fun i' wr => ∃ (i : Nat) (y : Value), i ≤ l.length ∧ i' = .int .i64 i ∧ Hid (BlockIs wr D [.int .i64 (partL (l.take i) s n k).length, y] 112) ∧ Hid (wr.ownsRow (D + 1) 52 10 y (partL (l.take i) s n k).length ((partL (l.take i) s n k).flatMap peV)) ∧ Hid (Below wo.heap.size wo wr)) (fun i' _ => l.length - (intOf i').toNat)
   case atStart => exact ⟨0, _, by omega, rfl, HK1.out, World.ownsRow_nil _ _ _ _, HB1.out⟩
   case round =>
    clear HK1 HB1
    obtain ⟨i, y, hi, rfl, HK, HO, HBq⟩ := hrel
    have HBw := zh (below2 HB.out HBq.out)
    by_cases hil : i < l.length
    ·obtain ⟨x, hx⟩ : ∃ x, l[i]? = some x := ⟨_, List.getElem?_eq_getElem hil⟩
     obtain ⟨b, o, rfl, h4, h5, h6⟩ := h3 (by omega)
     have hbl := Nat.lt_of_lt_of_le h5 HBw.out.size
     have hKX := (h6 i x hx).below HBw.out h5
     have HKX := zh hKX
     obtain ⟨k0, k1, k2, k3, k4, k5, k6, k7, k8, k9⟩ := hKX
     have p1 : (0 : Int) ≤ (i : Int) := by omega
     have p2 : (i : Int) < (l.length : Int) := by omega
     have hfx := hf x (List.mem_of_getElem? hx)
     have hO := fun W => refShOf_any x.en.ad hfx s hs n W
     obtain ⟨j, hj⟩ : ∃ j, j = ofN x.en.ad s n := ⟨_, rfl⟩
     rw [← hj] at hO
     have HOf := zh hO
     have hS := partL_snoc (s := s) (n := n) (i := k) hx
     rw [← hj] at hS
     have HSn := zh hS
     have hcl := partL_len (l.take i) s n k
     rw [List.length_take] at hcl
     have hcl2 : (partL (l.take i) s n k).length ≤ 1000000 := by omega
     clear hx h6 hO hj hS h3 hcl
     by_cases hjk : j = k
     ·subst hjk
      have HN : Hid (partL (l.take (i + 1)) s n j = partL (l.take i) s n j ++ [x]) := by show _ = _; rw [HSn.out, if_pos rfl]
      go_upto_region 10 with (go_at_call 67; (with_reducible refine (HOf.out _).mono ?_); rintro e W6 ⟨rfl, b6⟩)
      clear k0 k1 k2 k3 k4 k5 k6 k7 k8 k9
      have HB6 := zh (below2 HBq.out b6)
      have hK6 := HK.out.below b6
      have HO6 := zh (owns_below HO.out b6)
      have hKX6 := HKX.out.below b6 hbl
      have hbl6 := Nat.lt_of_lt_of_le hbl b6.size
      obtain ⟨x0, x1, x2, x3, x4, x5, x6, x7, x8, x9⟩ := hKX6
      have lD := hK6.lt
      obtain ⟨s0, s1⟩ := hK6.e2
      have sf := hK6.frozen
      have HK6 := zh hK6
      have HNE := zh (owns_neB HO6.out (Nat.lt_succ_self D))
      obtain ⟨q, hq⟩ : ∃ q, q = partL (l.take i) s n j := ⟨_, rfl⟩
      have HQ := zh hq
      rw [← hq] at HN HO6 HK6 s0 hcl2
      have hw1 : IntKind.i64.wrap ((q.length : Int) + 1) = (q.length : Int) + 1 := by rw [IntKind.wrap_i64]; omega
      clear hK6 b6 HK HO HBq HBw HKX hq HOf HSn
      obtain ⟨ga, cy, rfl⟩ := owns_slice HO6.out
      go_region_law (first | (refine step_app_reads_at peRow (by rfl) (.tmp 37) (.tmp 42) (by rfl) (D + 1) (.slice ga q.length cy) q.length (q.flatMap peV) (by rfl) (by (repeat (first | (with_reducible exact HO6.out) | (with_reducible refine World.ownsRow.alloc ?_ _) | (with_reducible refine World.ownsRow.drew ?_))); done) _ 1 (peV x) (by rfl) (reads_blk (B := W6.heap.size) (T := 52) (by (repeat (first | (with_reducible refine BlockIs.drew' ?_) | ((refine BlockIs.newAt' _ _ _ ?_); (first | rfl | (simp; done))))); done) rfl (Nat.succ_pos 9)) (peV_one1 x) (by omega) (by omega) (by first | omega | (simp; omega)) ?_; intro v7 w7 o7 g7 a7; obtain ⟨gv, cv, rfl⟩ := owns_slice o7; have hK7 : BlockIs w7 D [.int .i64 q.length, .slice ga q.length cy] 112 := blk_grown (by (repeat (first | (with_reducible exact HK6.out) | (with_reducible refine BlockIs.alloc' ?_ _) | (with_reducible refine BlockIs.drew' ?_))); done) g7 HNE.out; have sf7 := hK7.frozen; obtain ⟨s70, s71⟩ := hK7.e2) | fail)
      all_goals
       go_upto_region 11 with fail
       go_name_world W8 hW8
       have hb7 : Below (D + 1) W6 w7 := below_grown (base := D + 1) (e := 52) (size := 10) (v := .slice ga q.length cy) (n := q.length) (xs := q.flatMap peV) (by (repeat (first | (with_reducible exact HO6.out) | (with_reducible refine World.ownsRow.alloc ?_ _) | (with_reducible refine World.ownsRow.drew ?_))); done) (by exact bel) (Nat.le_refl _) (by first | omega | (simp; omega)) g7
       have hK8 := hK7.set 1 (.slice gv (q.length + 1) cv)
       have hO8 := owns_setB (i := 1) (x := .slice gv (q.length + 1) cv) o7 hK7 (owns_neB o7 (Nat.lt_succ_self D))
       have hB8 : Below wo.heap.size wo (w7.setCell ⟨D, 1, none⟩ (.slice gv (q.length + 1) cv)) := (HB6.out.trans (hb7.mono (by have := HD.out; omega))).setCell (by have := HD.out; show _ ≤ D; omega) _
       rw [hW8] at hK8 hO8 hB8
       simp only [List.set_cons_succ, List.set_cons_zero] at hK8
       have s80 := hK8.c0
       have sf8 := hK8.frozen
       have lD8 := hK8.lt
       obtain ⟨HK8, HO8, HB8⟩ := zh3 hK8 hO8 hB8
       clear hW8 hb7 hK8 hO8 hB8 s70 s71 sf7 o7 g7 a7 hK7 x0 x1 x2 x3 x4 x5 x6 x7 x8 x9 s0 s1 sf HK6 HO6 HB6
       go_upto_region 8 with fail
       go_name_world W9 hW9
       have hK9 := HK8.out.set 0 (.int .i64 ((q.length : Int) + 1))
       have hO9 := owns_setB (i := 0) (x := .int .i64 ((q.length : Int) + 1)) HO8.out HK8.out (owns_neB HO8.out (Nat.lt_succ_self D))
       have hB9 : Below wo.heap.size wo (W8.setCell ⟨D, 0, none⟩ (.int .i64 ((q.length : Int) + 1))) := HB8.out.setCell (by have := HD.out; show _ ≤ D; omega) _
       rw [hW9] at hK9 hO9 hB9
       simp only [List.set_cons_zero] at hK9
       have HL : Hid ((q ++ [x]).length = q.length + 1) := by show _ = _; simp
       have HFl : Hid ((q ++ [x]).flatMap peV = q.flatMap peV ++ peV x) := by show _ = _; rw [List.flatMap_append]; simp
       obtain ⟨HK9, HO9, HB9⟩ := zh3 hK9 hO9 hB9
       clear hW9 hK9 hO9 hB9 s80 sf8 HK8 HO8 HB8
       go_wp2_with fail
       go_roundw
       case rel => exact ⟨i + 1, _, by omega, by go_num, by rw [HN.out, HL.out]; exact HK9.out, by rw [HN.out, HL.out, HFl.out]; exact HO9.out, HB9.out⟩
       case measure => simp [intOf]; omega
     ·have HN : Hid (partL (l.take (i + 1)) s n k = partL (l.take i) s n k) := by show _ = _; rw [HSn.out, if_neg hjk]
      have hjz : ¬ ((j : Int) = (k : Int)) := by omega
      have hjb : ((j : Int) == (k : Int)) = false := beq_eq_false_iff_ne.2 hjz
      go_wp2_with (go_at_call 67; (with_reducible refine (HOf.out _).mono ?_); rintro e W6 ⟨rfl, b6⟩)
      go_roundw
      case rel => exact ⟨i + 1, y, by omega, by go_num, by rw [HN.out]; exact HK.out.below b6, by rw [HN.out]; exact owns_below HO.out b6, below2 HBq.out b6⟩
      case measure => simp [intOf]; omega
    ·obtain rfl : i = l.length := by omega
     have hTk : l.take l.length = l := List.take_length
     rw [hTk] at HK HO
     have HUq := zh (owns_below HU.out HBq.out); have HSq := zh (HS.out.below HBq.out)
     have hApt := apart_owns HU.out HO.out (by have := HD.out; omega)
     obtain ⟨q, hq⟩ : ∃ q, q = partL l s n k := ⟨_, rfl⟩
     have HPn : Hid (∀ vv, partOf l s n (ss ++ [⟨(q.length : Int), vv, q⟩])) := fun vv => by
      have := partOf_snoc (v := vv) HP.out
      rw [hq, HKK.out]; exact this
     rw [← hq] at HK HO
     have HAp := zh hApt
     obtain ⟨s0, s1⟩ := HK.out.e2
     have HFl : Hid (∀ vv, (ss ++ [(⟨(q.length : Int), vv, q⟩ : Sh)]).flatMap shV = ss.flatMap shV ++ [.int .i64 q.length, vv]) := fun vv => by rw [List.flatMap_append]; simp [shV]
     have HLn : Hid (∀ vv, (ss ++ [(⟨(q.length : Int), vv, q⟩ : Sh)]).length = k + 1) := fun vv => by rw [HKK.out]; simp
     have hbase : w.heap.size ≤ wr.heap.size := HBw.out.size
     obtain ⟨ga, cy, rfl⟩ := owns_slice HO.out
     clear hTk h3 hq hApt
     go_wp2_with (at_builtin; refine list_app_reads_at shRow rfl (.tmp 49) (.tmp 51) rfl w.heap.size _ k (ss.flatMap shV) rfl (HUq.out.alloc _) _ 1 [.int .i64 q.length, .slice ga q.length cy] rfl (reads_one (us := [.int .i64 q.length, .slice ga q.length cy]) rfl (Nat.succ_pos 1)) (by simp [Value.oneCell']) (by omega) (by omega) (by simp; omega) ?_; intro v7 w7 o7 g7 a7)
     have hb7 : Below w.heap.size w w7 := below_grown (HUq.out.alloc _) (by first | exact HBw.out.alloc hbase _) (Nat.le_refl _) (by simp; omega) g7
     have hs7 := Stood.put (HSq.out.below ((Below.refl _ _).alloc (Nat.le_refl _) _)) g7 (Nat.le_refl _) a7
     have ho7 := owns_apart (HO.out.alloc _) g7 fun ga' e1 e2 => HAp.out ga' e2 e1
     have ha7 := apart_new HAp.out (HO.out.alloc _) (Nat.le_refl _) a7
     have hs8 := hs7.snoc (t := ⟨(q.length : Int), .slice ga q.length cy, q⟩) ⟨owns_base ho7 (by have := HD.out; have := HB.out.size; omega), ha7⟩
     obtain ⟨HS8, HB7⟩ := zh2 hs8 hb7
     clear hs7 ho7 ha7 hs8 hb7 g7 a7
     go_roundw
     case rel => exact ⟨ss ++ [(⟨(q.length : Int), .slice ga q.length cy, q⟩ : Sh)], by rw [HLn.out (.slice ga q.length cy)]; omega, by rw [HLn.out (.slice ga q.length cy)]; go_num, by rw [HLn.out (.slice ga q.length cy), HFl.out]; exact o7, HPn.out _, HS8.out, HB7.out⟩
     case measure => simp [intOf]; omega
  ·obtain rfl : k = m := by omega
   have hR : ∀ u, wo.ownsRow w.heap.size 112 2 u k (ss.flatMap shV) → ∀ W, (∀ b arr T, w.heap.size ≤ b → BlockIs wo b arr T → BlockIs W b arr T) → ReadsL shV 2 W u ss := fun u ho W hk => owns_readsL (by rw [← HKK.out]; exact owns_held ho fun b arr hb hB => hk b arr _ hb hB)
   have HR := zh hR
   have HPP : Hid (PartsOf ss l s n) := ⟨by rw [← HM.out, HKK.out], HP.out⟩
   clear hR h3
   go_wp2_with (go_at_call 66; (with_reducible refine (HPa.out _).mono ?_); rintro e w' ⟨rfl, rfl⟩)
   go_ret
   exact ⟨_, ss, rfl, fun W hk => ⟨HR.out _ HU.out W hk, fun t ht => owns_readsL (owns_held (HS.out t ht).1 fun b arr hb hB => hk b arr _ hb hB)⟩, HPP.out, HB.out⟩
end Go.Proofs.YtnplgagaoeckoaaGreat
