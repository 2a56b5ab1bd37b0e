/- Texts put together: ShI. No condition. -/
import Derived.Test.YtnplgagaoeckoaaRthufioxysg
import Derived.Test.YtnplgagaoeckoaaRwanvemwziy
import Derived.Test.YtnplgagaoeckoaaRrlobibzpyi
import Derived.Test.YtnplgagaoeckoaaRdttpjvmgce
import Derived.Test.YtnplgagaoeckoaaRwioubrlxuu
namespace Go.Proofs.Ytnplgagaoeckoaa
open Go.RowKit Go.Lib

def zSh : Sh := ⟨0, .slice none 0 0, []⟩
/-- every part's row is the call's own, and no two lie in one block -/
def ShState (w : World) (base : Nat) (ss : List Sh) : Prop := (∀ s ∈ ss, w.ownsRow base 50 10 s.v s.l.length (s.l.flatMap peV)) ∧ ∀ (i j : Nat) (s t : Sh), i ≠ j → ss[i]? = some s → ss[j]? = some t → ApartV s.v t.v
theorem ShState.below {w w' : World} {base : Nat} {ss : List Sh} (h : ShState w base ss) (hb : Below w.heap.size w w') : ShState w' base ss := ⟨fun s hs => owns_below (h.1 s hs) hb, h.2⟩
theorem ShState.grow {w w7 : World} {base j k : Nat} {ss : List Sh} {s : Sh} {z : Int} {v7 : Value} {l7 : List Pe} (h : ShState w base ss) (hj : ss[j]? = some s) (hg : w.grownBy w7 s.v.ownBlock)
    (ho : w7.ownsRow base 50 10 v7 l7.length (l7.flatMap peV)) (hk : w.heap.size ≤ k) (ha : v7.ownBlock = s.v.ownBlock ∨ v7.ownBlock = some k) : ShState w7 base (ss.set j ⟨z, v7, l7⟩) := by
  have hjl := (List.getElem?_eq_some_iff.1 hj).1
  have old : ∀ i t, i ≠ j → (ss.set j ⟨z, v7, l7⟩)[i]? = some t → ss[i]? = some t := fun i t hne hi => by rwa [List.getElem?_set_ne (fun e => hne e.symm)] at hi
  have new : ∀ t, (ss.set j ⟨z, v7, l7⟩)[j]? = some t → t = ⟨z, v7, l7⟩ := fun t hi => by rw [List.getElem?_set_self hjl] at hi; injection hi with hi; exact hi.symm
  have far : ∀ i t, i ≠ j → ss[i]? = some t → ApartV v7 t.v := fun i t hne hi => apart_new (h.2 j i s t (fun e => hne e.symm) hj hi) (h.1 t (List.mem_of_getElem? hi)) hk ha
  refine ⟨fun t ht => ?_, fun a b s1 t1 hab h1 h2 => ?_⟩
  · obtain ⟨i, hi⟩ := List.mem_iff_getElem?.1 ht
    by_cases e : i = j
    · subst e; rw [new t hi]; exact ho
    · have hi' := old i t e hi
      exact owns_apart (h.1 t (List.mem_of_getElem? hi')) hg fun g a b => h.2 i j t s e hi' hj g a b
  · by_cases e1 : a = j
    · subst e1
      rw [new s1 h1]
      exact far b t1 (fun e => hab e.symm) (old b t1 (fun e => hab e.symm) h2)
    · by_cases e2 : b = j
      · subst e2
        rw [new t1 h2]
        exact (far a s1 e1 (old a s1 e1 h1)).symm
      · exact h.2 a b s1 t1 hab (old a s1 e1 h1) (old b t1 e2 h2)
theorem owns_neB {w : World} {base n size g : Nat} {e : TypeId} {v : Value} {xs : List Value} (h : w.ownsRow base e size v n xs) (hg : g < base) : v.ownBlock ≠ some g := by
  intro he
  have := (h.lt g he).1
  omega
theorem ShState.set {w : World} {base U i : Nat} {ss : List Sh} {us : List Value} {T : TypeId} (h : ShState w base ss) (hb : BlockIs w U us T) (hU : U < base) (x : Value) : ShState (w.setCell ⟨U, i, none⟩ x) base ss :=
  ⟨fun s hs => owns_setB (h.1 s hs) hb (owns_neB (h.1 s hs) hU), h.2⟩
theorem ShState.resize {w : World} {base j : Nat} {ss : List Sh} {s : Sh} (h : ShState w base ss) (hj : ss[j]? = some s) (z : Int) : ShState w base (ss.set j ⟨z, s.v, s.l⟩) :=
  h.grow hj ⟨rfl, rfl, rfl, Nat.le_refl _, fun _ _ _ => rfl⟩ (h.1 s (List.mem_of_getElem? hj)) (Nat.le_refl _) (Or.inl rfl)
theorem sh_set_v : ∀ (ss : List Sh) (j : Nat) (s : Sh) (v : Value), ss[j]? = some s → (ss.flatMap shV).set (j * 2 + 1) v = (ss.set j ⟨s.size, v, s.l⟩).flatMap shV
  | a :: r, 0, s, v, h => by
    simp only [List.getElem?_cons_zero, Option.some.injEq] at h
    subst h; rfl
  | a :: r, j + 1, s, v, h => by
    have ih := sh_set_v r j s v (by simpa using h)
    rw [List.set_cons_succ, List.flatMap_cons, List.flatMap_cons, ← ih, show (j + 1) * 2 + 1 = (j * 2 + 1) + 1 + 1 by omega]
    rfl
theorem sh_set_z : ∀ (ss : List Sh) (j : Nat) (s : Sh) (z : Int), ss[j]? = some s → (ss.flatMap shV).set (j * 2) (.int .i64 z) = (ss.set j ⟨z, s.v, s.l⟩).flatMap shV
  | a :: r, 0, s, z, h => by
    simp only [List.getElem?_cons_zero, Option.some.injEq] at h
    subst h; rfl
  | a :: r, j + 1, s, z, h => by
    have ih := sh_set_z r j s z (by simpa using h)
    rw [List.set_cons_succ, List.flatMap_cons, List.flatMap_cons, ← ih, show (j + 1) * 2 = j * 2 + 1 + 1 by omega]
    rfl
theorem sh_cell : ∀ (ss : List Sh) (j : Nat) (s : Sh), ss[j]? = some s → (ss.flatMap shV)[j * 2]? = some (.int .i64 s.size) ∧ (ss.flatMap shV)[j * 2 + 1]? = some s.v
  | a :: r, 0, s, h => by
    simp only [List.getElem?_cons_zero, Option.some.injEq] at h
    subst h; exact ⟨rfl, rfl⟩
  | a :: r, j + 1, s, h => by
    have ih := sh_cell r j s (by simpa using h)
    rw [List.flatMap_cons, show (j + 1) * 2 = (j * 2) + 1 + 1 by omega]
    exact ih
theorem sh_flat_l : ∀ (ss : List Sh) (j : Nat) (z : Int) (v : Value) (l1 l2 : List Pe), (ss.set j ⟨z, v, l1⟩).flatMap shV = (ss.set j ⟨z, v, l2⟩).flatMap shV
  | [], _, _, _, _, _ => rfl
  | a :: r, 0, z, v, l1, l2 => rfl
  | a :: r, j + 1, z, v, l1, l2 => by rw [List.set_cons_succ, List.set_cons_succ, List.flatMap_cons, List.flatMap_cons, sh_flat_l r j z v l1 l2]
/-- the peers of a part -/
def partL (l : List Pe) (s : Nat) (n : Int) (i : Nat) : List Pe := l.filter fun p => decide (ofN p.en.ad s n = i)
def PartsOf (ss : List Sh) (l : List Pe) (s : Nat) (n : Int) : Prop := ss.length = partsN n ∧ ∀ (i : Nat) (x : Sh), ss[i]? = some x → x.size = ((partL l s n i).length : Int) ∧ x.l = partL l s n i
theorem partL_snoc {l : List Pe} {s : Nat} {n : Int} {i k : Nat} {x : Pe} (hx : l[k]? = some x) : partL (l.take (k + 1)) s n i = if ofN x.en.ad s n = i then partL (l.take k) s n i ++ [x] else partL (l.take k) s n i := by
  unfold partL
  rw [filt_snoc _ _ _ _ hx]
  by_cases h : ofN x.en.ad s n = i <;> simp [h]
theorem partL_len (l : List Pe) (s : Nat) (n : Int) (i : Nat) : (partL l s n i).length ≤ l.length := List.length_filter_le _ _
theorem parts_step {ss : List Sh} {l : List Pe} {s : Nat} {n : Int} {k j : Nat} {x : Pe} {v : Value} {y : Sh} (h : PartsOf ss (l.take k) s n) (hx : l[k]? = some x) (hj : j = ofN x.en.ad s n) (hy : ss[j]? = some y) :
    PartsOf (ss.set j ⟨y.size + 1, v, y.l ++ [x]⟩) (l.take (k + 1)) s n := by
  have hjl := (List.getElem?_eq_some_iff.1 hy).1
  refine ⟨by simpa using h.1, fun i t hi => ?_⟩
  rw [partL_snoc hx]
  by_cases e : i = j
  · subst e
    rw [List.getElem?_set_self hjl] at hi
    injection hi with hi
    subst hi
    obtain ⟨h1, h2⟩ := h.2 i y hy
    rw [if_pos hj.symm]
    refine ⟨?_, by rw [h2]⟩
    simp only [List.length_append, List.length_singleton]
    omega
  · rw [List.getElem?_set_ne (fun e' => e e'.symm)] at hi
    rw [if_neg (fun e' => e (by omega))]
    exact h.2 i t hi
theorem parts_none (s : Nat) (n : Int) : PartsOf (List.replicate (partsN n) zSh) [] s n := by
  refine ⟨by simp, fun i x hx => ?_⟩
  rw [List.getElem?_replicate] at hx
  split at hx
  · injection hx with hx; subst hx; exact ⟨rfl, rfl⟩
  · cases hx
theorem state_none (w : World) (base m : Nat) : ShState w base (List.replicate m zSh) := by
  refine ⟨fun s hs => ?_, fun i j s t _ h1 _ => ?_⟩
  · rw [List.eq_of_mem_replicate hs]; exact World.ownsRow_nil _ _ _ _
  · rw [List.eq_of_mem_replicate (List.mem_of_getElem? h1)]; exact apart_nil _
theorem made_pair (x y : Value) (hx : x.cells = #[x]) (hy : y.cells = #[y]) (m : Nat) : madeCells (Value.agg #[x, y]).cells (m * 2) = ((List.replicate m [x, y]).flatten).toArray := by
  have hc : (Value.agg #[x, y]).cells = #[x, y] := by simp [Value.cells, hx, hy]
  rw [hc]
  apply Array.ext'
  apply List.ext_getElem?
  intro j
  have hflat : ∀ m j : Nat, ((List.replicate m [x, y]).flatten)[j]? = if j < m * 2 then some (if j % 2 = 0 then x else y) else none := by
    intro m
    induction m with
    | zero => intro j; simp
    | succ m ih =>
      intro j
      rw [List.replicate_succ, List.flatten_cons]
      match j with
      | 0 => rw [if_pos (by omega)]; rfl
      | 1 => rw [if_pos (by omega)]; rfl
      | j + 2 =>
        show ((List.replicate m [x, y]).flatten)[j]? = _
        rw [ih, Nat.add_mod_right]
        by_cases h : j < m * 2
        · have h' : j + 2 < (m + 1) * 2 := by omega
          rw [if_pos h, if_pos h']
        · have h' : ¬ j + 2 < (m + 1) * 2 := by omega
          rw [if_neg h, if_neg h']
  rw [hflat]
  by_cases h : j < m * 2
  · rw [if_pos h]
    simp only [madeCells, Array.toList_map, Array.toList_range, List.getElem?_map, List.getElem?_range h, Option.map_some]
    congr 1
    have : j % 2 = 0 ∨ j % 2 = 1 := by omega
    rcases this with e | e <;> simp [e]
  · rw [if_neg h]
    exact List.getElem?_eq_none (by simp [madeCells]; omega)
theorem run_make_sh (m : Nat) (h : 1 ≤ m ∧ m ≤ 8) (W : World) : (Instr.makeSlice 33 (.int .i64 m) (.int .i64 m)).run Try.prog W = .ok (.slice (some ⟨W.heap.size, 0, none⟩) m m) (W.alloc (.cells ((List.replicate m zSh).flatMap shV).toArray 92)) := by
  obtain ⟨i, hi, hz0, hz1, hz2⟩ := info_parts (show (Try.prog.info? 92).map (fun i => (i.zero, i.size, i.bytes)) = some (some (.agg #[.int .i64 0, .slice none 0 0]), 2, 32) by kernel_rfl)
  have := run_make (P := Try.prog) W 33 92 i (.agg #[.int .i64 0, .slice none 0 0]) Try.underlying33 hi hz0 .i64 .i64 m m (by omega) (by omega) (by rw [hz2]; omega) (by omega)
  have e1 : ((m : Nat) : Int).toNat = m := by omega
  have e2 : madeCells (Value.agg #[.int .i64 0, .slice none 0 0]).cells (m * 2) = ((List.replicate m zSh).flatMap shV).toArray := by
    rw [made_pair _ _ (by simp [Value.cells]) (by simp [Value.cells]), List.flatMap_replicate]; rfl
  rw [this, e1, hz1, e2]
end Go.Proofs.Ytnplgagaoeckoaa
