/- Texts put together: AppAt, ShC, ShG, MemA, MemB. No condition. -/
import Derived.Test.YtnplgagaoeckoaaGreatRjocmslpnog
import Derived.Maps.AppendAt
import Derived.Test.YtnplgagaoeckoaaGreatRbocrvkvair
import Derived.Test.YtnplgagaoeckoaaGreatRnpmcecexot
import Derived.Test.YtnplgagaoeckoaaGreatRqjngbjfvuz
import Derived.Test.YtnplgagaoeckoaaGreatRmmjmhtuwoe
import Derived.Test.YtnplgagaoeckoaaGreatRmtvuvpphfn
import Derived.Test.YtnplgagaoeckoaaGreatRasnvgeilsd
import Derived.Test.YtnplgagaoeckoaaGreatRgbeffxkyes
import Derived.Test.YtnplgagaoeckoaaGreatRgrqssyjqzq
import Derived.Test.YtnplgagaoeckoaaGreatRfpzzrhnffr
set_option maxRecDepth 100000
set_option linter.unusedSimpArgs false
set_option linter.unusedVariables false
namespace Go.Proofs.YtnplgagaoeckoaaGreat
open Go.RowKit
/-- two slices lie in two blocks -/
def ApartV (u v : Value) : Prop := ∀ g, u.ownBlock = some g → v.ownBlock = some g → False
theorem apart_nil (v : Value) : ApartV (.slice none 0 0) v := fun g h => by cases h
theorem ApartV.symm {u v : Value} (h : ApartV u v) : ApartV v u := fun g a b => h g b a
theorem apart_new {base n size k : Nat} {u u' v : Value} {e : TypeId} {xs : List Value} {w : World} (h : ApartV u v) (hv : w.ownsRow base e size v n xs) (hk : w.heap.size ≤ k) (hu : u'.ownBlock = u.ownBlock ∨ u'.ownBlock = some k) : ApartV u' v := by
 intro g a b
 rcases hu with e1 | e1
 ·exact h g (e1.symm.trans a) b
 ·rcases hv.2 with ⟨rfl, _⟩ | ⟨g', cap, cur, rfl, _, hg, _⟩
  ·cases b
  ·rw [e1] at a
   simp only [Value.ownBlock, Option.some.injEq] at a b
   subst a; subst b
   have := (Array.getElem?_eq_some_iff.1 hg).1
   omega
section
variable {P : Program} {t e : TypeId} {size bytes : Nat}
theorem run_app_reads_at (R : RowT P t e size bytes) {w : World} {base : Nat} {ty : TypeId} {v y : Value} {n m : Nat} {xs ys : List Value} (hown : w.ownsRow base e size v n xs) (hy : Reads w y m size ys) (h1 : ∀ u ∈ ys, u.oneCell' = true)
  (hn : (n + m) * bytes ≤ 140737488355328) (hn2 : n + m ≤ 140737488355328) (hbase : base ≤ w.heap.size) :
  ∃ v' w', (Builtin.append_ #[t, t] ty #[v, y]).run P w = .ok v' w' ∧ w'.ownsRow base e size v' (n + m) (xs ++ ys) ∧ w.grownBy w' v.ownBlock ∧ (v'.ownBlock = v.ownBlock ∨ v'.ownBlock = some w.heap.size) := by
 obtain ⟨ht, hsz, i, z, hi, hz0, hz1, hz2, hz3⟩ := R
 have add : ∀ (b o j : Nat), (⟨b, o, none⟩ : Addr).add j = ⟨b, o + j, none⟩ := fun b o j => by unfold Addr.add; split <;> simp_all
 obtain ⟨hl, _, hy⟩ := hy
 rcases hy with ⟨rfl, a, c, rfl⟩ | ⟨hp, b, o, c, rfl, hc, hlt, hx⟩
 ·have hys : ys = [] := List.eq_nil_of_length_eq_zero (by simpa using hl)
  subst hys
  cases a with
  | none => exact ⟨v, w, run_app_none ht hi hown, by simpa using hown, grown_refl _ _, Or.inl rfl⟩
  | some a =>
   obtain ⟨v', w', h2, h3, h4, _, h5⟩ := run_append_own_at (P := P) w base t ty e i z size bytes ht hi hz0 hz1 hz2 hz3 hsz v n xs hown a 0 c [] hl (by simp) h1 (by unfold maxLen; omega) hn hbase
   exact ⟨v', w', h2, h3, h4, h5⟩
 ·obtain ⟨v', w', h2, h3, h4, _, h5⟩ := run_append_own_at (P := P) w base t ty e i z size bytes ht hi hz0 hz1 hz2 hz3 hsz v n xs hown ⟨b, o, none⟩ m c ys hl (fun j u hu => by rw [add]; exact hx j u hu) h1 (by unfold maxLen; omega) hn hbase
  exact ⟨v', w', h2, h3, h4, h5⟩
theorem list_app_reads_at (R : RowT P t e size bytes) {ops : Array Oper} {rest : List Oper} {o : Oper} {a : Act} {w : World} {Q : Exit → Act → World → Prop} (hg : o.guard = none) (s x : Operand)
  (hop : o.op = .call { callee := .builtin .append, args := #[s, x], argTypes := #[t, t] }) (base : Nat) (v : Value) (n : Nat) (xs : List Value) (hs : a.eval s = v) (hown : w.ownsRow base e size v n xs)
  (y : Value) (m : Nat) (ys : List Value) (hx : a.eval x = y) (hy : Reads w y m size ys) (h1 : ∀ u ∈ ys, u.oneCell' = true) (hn : (n + m) * bytes ≤ 140737488355328) (hn2 : n + m ≤ 140737488355328) (hbase : base ≤ w.heap.size)
  (h : ∀ v' w', w'.ownsRow base e size v' (n + m) (xs ++ ys) → w.grownBy w' v.ownBlock → (v'.ownBlock = v.ownBlock ∨ v'.ownBlock = some w.heap.size) → wpList P ops Q rest (a.put o.dst v') w') : wpList P ops Q (o :: rest) a w :=
 wpList_plain hg fun _ hK => by
  obtain ⟨v', w', hr, h2, h3, h4⟩ := run_app_reads_at (ty := o.type) R hown hy h1 hn hn2 hbase
  unfold Oper.wp execOp
  simp only [hop, resolve, invoke, builtin, Sem.run_bind, Sem.run_pure, Result.andThen_ok, List.map_toArray, List.map_cons, List.map_nil, hs, hx, hr]
  exact hK _ _ (h v' w' h2 h3 h4)
theorem step_app_reads_at (R : RowT P t e size bytes) {ops : Array Oper} {o : Oper} {a : Act} {w : World} {K : Act → World → Prop} {Q : Exit → Act → World → Prop} {E : Prop} (hg : o.guard = none) (s x : Operand)
  (hop : o.op = .call { callee := .builtin .append, args := #[s, x], argTypes := #[t, t] }) (base : Nat) (v : Value) (n : Nat) (xs : List Value) (hs : a.eval s = v) (hown : w.ownsRow base e size v n xs)
  (y : Value) (m : Nat) (ys : List Value) (hx : a.eval x = y) (hy : Reads w y m size ys) (h1 : ∀ u ∈ ys, u.oneCell' = true) (hn : (n + m) * bytes ≤ 140737488355328) (hn2 : n + m ≤ 140737488355328) (hbase : base ≤ w.heap.size)
  (h : ∀ v' w', w'.ownsRow base e size v' (n + m) (xs ++ ys) → w.grownBy w' v.ownBlock → (v'.ownBlock = v.ownBlock ∨ v'.ownBlock = some w.heap.size) → K (a.put o.dst v') w') : if Region.wanted o (yielded ops a.tmps) = true then o.wp P a w K Q else E := by
 rw [if_pos (by simp [Region.wanted, hg])]
 obtain ⟨v', w', hr, h2, h3, h4⟩ := run_app_reads_at (ty := o.type) R hown hy h1 hn hn2 hbase
 unfold Oper.wp execOp
 simp only [hop, resolve, invoke, builtin, Sem.run_bind, Sem.run_pure, Result.andThen_ok, List.map_toArray, List.map_cons, List.map_nil, hs, hx, hr]
 exact h v' w' h2 h3 h4
/-- a row of the call's own stays where another row alone has turned -/
theorem owns_apart {base n : Nat} {w w' : World} {v : Value} {xs : List Value} {r : Option Nat} (h : w.ownsRow base e size v n xs) (hg : w.grownBy w' r) (hne : ∀ g, v.ownBlock = some g → r = some g → False) : w'.ownsRow base e size v n xs := by
 obtain ⟨h1, h2⟩ := h
 refine ⟨h1, ?_⟩
 rcases h2 with h2 | ⟨g, cap, cur, rfl, hbg, hgg, rest⟩
 ·exact Or.inl h2
 ·refine Or.inr ⟨g, cap, cur, rfl, hbg, ?_, rest⟩
  rw [hg.block g ((Array.getElem?_eq_some_iff.1 hgg).1) (fun e => hne g rfl e.symm)]
  exact hgg
end
end Go.Proofs.YtnplgagaoeckoaaGreat
namespace Go.Proofs.YtnplgagaoeckoaaGreat
open Go.RowKit Go.Lib
theorem filt_snoc (t : Pe → Bool) (l : List Pe) (k : Nat) (x : Pe) (hx : l[k]? = some x) : (l.take (k + 1)).filter t = if t x = true then (l.take k).filter t ++ [x] else (l.take k).filter t := by
 rw [List.take_add_one, hx, Option.toList_some, List.filter_append]
 by_cases h : t x = true <;> simp [h]
structure Sh where
 size : Int
 v : Value
 l : List Pe
def shV (s : Sh) : List Value := [.int .i64 s.size, s.v]
theorem shV_len (s : Sh) : (shV s).length = 2 := rfl
/-- what is read of parts: their rows, and each one's peers -/
def ReadsSh (w : World) (v : Value) (ss : List Sh) : Prop := ReadsL shV 2 w v ss ∧ ∀ s ∈ ss, ReadsL peV 10 w s.v s.l
theorem ReadsSh.below {w w' : World} {v : Value} {ss : List Sh} (h : ReadsSh w v ss) (hb : Below w.heap.size w w') : ReadsSh w' v ss := ⟨ReadsL.below h.1 hb, fun s hs => ReadsL.below (h.2 s hs) hb⟩
theorem shs_open {w : World} {v : Value} {l : List Sh} (h : ReadsL shV 2 w v l) : l.length ≤ 9223372036854775807 ∧ ∃ (a : Option Addr) (c : Nat), v = .slice a l.length c ∧ (0 < l.length → ∃ b o, a = some ⟨b, o, none⟩ ∧ l.length ≤ c ∧ b < w.heap.size ∧
   ∀ (i : Nat) (p : Sh), l[i]? = some p → w.cell? ⟨b, o + i * 2, none⟩ = some (.int .i64 p.size) ∧ w.cell? ⟨b, o + i * 2 + 1, none⟩ = some p.v) := by
 obtain ⟨h1, a, c, h2, h3⟩ := h.open shV_len (by omega)
 refine ⟨h1, a, c, h2, fun hp => ?_⟩
 obtain ⟨b, o, h4, h5, h6, h7⟩ := h3 hp
 refine ⟨b, o, h4, h5, h6, fun i x hi => ⟨?_, ?_⟩⟩
 ·have := h7 i x hi 0 _ rfl; simpa [Nat.add_assoc] using this
 ·have := h7 i x hi 1 _ rfl; simpa [Nat.add_assoc] using this
def pesS (s : Sh) : List Pe := s.l.take s.size.toNat
set_option maxHeartbeats 4000000 in
theorem shPeers_any (z : Int) (v : Value) (l : List Pe) (w : World) (h : ReadsL peV 10 w v l) (hl : l.length ≤ 1000000) :
  Calls Tryz.prog 78 #[.agg #[.int .i64 z, v]] w fun e w' => ∃ r, e = .returned r ∧ ReadsL peV 10 w' r (l.take z.toNat) ∧ Below w.heap.size w w' := by
 obtain ⟨hm, a0, c, rfl, h3⟩ := pes_open h
 obtain ⟨k, hk⟩ : ∃ k : Nat, k = min z.toNat l.length := ⟨_, rfl⟩
 have hmm : min (max z 0) (l.length : Int) = (k : Int) := by omega
 have hkl : k ≤ l.length := by omega
 have htk : l.take z.toNat = l.take k := by
  rw [hk]
  rcases Nat.le_total z.toNat l.length with h | h
  ·rw [Nat.min_eq_left h]
  ·rw [Nat.min_eq_right h, List.take_of_length_le h, List.take_of_length_le (Nat.le_refl _)]
 rw [htk]
 have hkt : (l.take k).length = k := by rw [List.length_take]; omega
 have HB0 : Hid (Below w.heap.size w (w.alloc (.cells #[.int .i64 z, .slice a0 l.length c] 112))) := (Below.refl _ _).alloc (Nat.le_refl _) _
 have q1 : (0 : Int) ≤ (k : Int) := by omega
 have q2 : (k : Int) ≤ (l.length : Int) := by omega
 rcases Nat.eq_zero_or_pos l.length with h0 | h0
 ·have hl0 : l = [] := List.eq_nil_of_length_eq_zero h0
  subst hl0
  obtain rfl : k = 0 := by simp at hk; omega
  have HCl := zh (fun (a : Option Addr) (c : Nat) => clonePe (.slice a 0 c) [] (w.alloc (.cells #[.int .i64 z, .slice a0 0 c] 112)) ⟨rfl, by simp, Or.inl ⟨rfl, a, c, rfl⟩⟩ (by simp))
  have hmm' : min (max z 0) (0 : Int) = 0 := by omega
  simp only [List.length_nil] at *
  have HT : Hid (([] : List Pe).take 0 = []) := rfl
  clear h h3 hk htk hkt hkl hmm q1 q2
  cases a0 with
  | none =>
   go_enter Tryz.func78, Tryz.ntmps78
   go_wp2_with (go_at_call 99; (refine (clonePe _ [] _ ⟨rfl, by simp, Or.inl ⟨rfl, _, _, rfl⟩⟩ (by simp)).mono ?_); rintro e w1 ⟨r1, rfl, o1, b1, k1⟩)
   go_ret
   exact ⟨_, rfl, owns_readsL (l := []) o1, below2 HB0.out b1⟩
  | some a =>
   go_enter Tryz.func78, Tryz.ntmps78
   go_wp2_with (go_at_call 99; (refine (clonePe _ [] _ ⟨rfl, by simp, Or.inl ⟨rfl, _, _, rfl⟩⟩ (by simp)).mono ?_); rintro e w1 ⟨r1, rfl, o1, b1, k1⟩)
   go_ret
   exact ⟨_, rfl, owns_readsL (l := []) o1, below2 HB0.out b1⟩
 ·obtain ⟨b, o, rfl, h4, h5, h6⟩ := h3 h0
  have r2 := reads_takeP h hkl
  have HCl := zh (clonePe _ (l.take k) _ (ReadsL.below r2 HB0.out) (by omega))
  rw [hkt] at HCl
  have q3 : (k : Int) ≤ (c : Int) := by omega
  have HR : Hid (∀ (r : Value) (W : World), W.ownsRow (w.alloc (.cells #[.int .i64 z, .slice (some ⟨b, o, none⟩) l.length c] 112)).heap.size 52 10 r k ((l.take k).flatMap peV) → ReadsL peV 10 W r (l.take k)) := fun r W ho => owns_readsL (by rw [hkt]; exact ho)
  clear h h3 h6 hk htk hkt r2
  go_enter Tryz.func78, Tryz.ntmps78
  go_wp2_with (go_at_call 99; (with_reducible refine HCl.out.mono ?_); rintro e w1 ⟨r1, rfl, o1, b1, k1⟩)
  go_ret
  exact ⟨_, rfl, HR.out _ _ o1, below2 HB0.out b1⟩
end Go.Proofs.YtnplgagaoeckoaaGreat
namespace Go.Proofs.YtnplgagaoeckoaaGreat
open Go.RowKit

structure Lk where
 b : Int
 v : Value
 l : List Int
def lkV (k : Lk) : List Value := [.int .i64 k.b, k.v]
theorem lkV_len (k : Lk) : (lkV k).length = 2 := rfl
structure Mm where
 inn : Int
 out : Int
 bans : Value × List Ba
 book : Value × List Ey
 parts : Value × List Sh
 locks : Value × List Lk
def ReadsLk (w : World) (v : Value) (ks : List Lk) : Prop := ReadsL lkV 2 w v ks ∧ ∀ k ∈ ks, ReadsL inV 1 w k.v k.l
theorem ReadsLk.below {w w' : World} {v : Value} {ks : List Lk} (h : ReadsLk w v ks) (hb : Below w.heap.size w w') : ReadsLk w' v ks := ⟨ReadsL.below h.1 hb, fun s hs => ReadsL.below (h.2 s hs) hb⟩
def Mm.pl (m : Mm) : Pm := ⟨m.inn, m.out, m.bans.2, m.book.2, m.parts.2.map (fun s => (s.size, s.l)), m.locks.2.map (fun k => (k.b, k.l))⟩
def MmAt (w : World) (m : Mm) : Prop := ReadsL baV 5 w m.bans.1 m.bans.2 ∧ ReadsL eyV 7 w m.book.1 m.book.2 ∧ ReadsSh w m.parts.1 m.parts.2 ∧ ReadsLk w m.locks.1 m.locks.2
theorem MmAt.below {w w' : World} {m : Mm} (h : MmAt w m) (hb : Below w.heap.size w w') : MmAt w' m := ⟨ReadsL.below h.1 hb, ReadsL.below h.2.1 hb, h.2.2.1.below hb, h.2.2.2.below hb⟩
theorem lks_open {w : World} {v : Value} {l : List Lk} (h : ReadsL lkV 2 w v l) : l.length ≤ 9223372036854775807 ∧ ∃ (a : Option Addr) (c : Nat), v = .slice a l.length c ∧ (0 < l.length → ∃ b o, a = some ⟨b, o, none⟩ ∧ l.length ≤ c ∧ b < w.heap.size ∧
   ∀ (i : Nat) (p : Lk), l[i]? = some p → w.cell? ⟨b, o + i * 2, none⟩ = some (.int .i64 p.b) ∧ w.cell? ⟨b, o + i * 2 + 1, none⟩ = some p.v) := by
 obtain ⟨h1, a, c, h2, h3⟩ := h.open lkV_len (by omega)
 refine ⟨h1, a, c, h2, fun hp => ?_⟩
 obtain ⟨b, o, h4, h5, h6, h7⟩ := h3 hp
 refine ⟨b, o, h4, h5, h6, fun i x hi => ⟨?_, ?_⟩⟩
 ·have := h7 i x hi 0 _ rfl; simpa [Nat.add_assoc] using this
 ·have := h7 i x hi 1 _ rfl; simpa [Nat.add_assoc] using this
/-- what a memory's slices are -/
theorem mm_slices {w : World} {m : Mm} (h : MmAt w m) : ∃ (a1 a2 a3 a4 : Option Addr) (c1 c2 c3 c4 : Nat), m.bans.1 = .slice a1 m.bans.2.length c1 ∧ m.book.1 = .slice a2 m.book.2.length c2 ∧ m.parts.1 = .slice a3 m.parts.2.length c3 ∧ m.locks.1 = .slice a4 m.locks.2.length c4 := by
 obtain ⟨_, a1, c1, e1, _⟩ := ba_open h.1
 obtain ⟨_, a2, c2, e2, _⟩ := ey_open h.2.1
 obtain ⟨_, a3, c3, e3, _⟩ := shs_open h.2.2.1.1
 obtain ⟨_, a4, c4, e4, _⟩ := lks_open h.2.2.2.1
 exact ⟨a1, a2, a3, a4, c1, c2, c3, c4, e1, e2, e3, e4⟩
def zeroLk : Lk := ⟨0, .slice none 0 0, []⟩
def lkOf (m : Mm) (k : Int) : Lk := getAt m.locks.2 k zeroLk
theorem getAt_map {α β : Type} (f : α → β) (l : List α) (k : Int) (d : α) : getAt (l.map f) k (f d) = f (getAt l k d) := by
 unfold getAt
 split
 ·rw [List.getD_eq_getElem?_getD, List.getD_eq_getElem?_getD, List.getElem?_map]; cases l[k.toNat]? <;> rfl
 ·rfl
theorem lkOf_pl (m : Mm) (k : Int) : lockP m.pl k = ((lkOf m k).b, (lkOf m k).l) := getAt_map (fun k : Lk => (k.b, k.l)) m.locks.2 k zeroLk
theorem lkOf_at {w : World} {m : Mm} (h : MmAt w m) (k : Int) : ReadsL inV 1 w (lkOf m k).v (lkOf m k).l := by
 rcases getAt_mem (l := m.locks.2) (k := k) (d := zeroLk) with e | e
 ·exact h.2.2.2.2 _ e
 ·unfold lkOf; rw [e]; exact ReadsL.nil _ _ _ _ _
set_option maxHeartbeats 8000000 in
theorem memLock_any (m : Mm) (k : Int) (w : World) (h : MmAt w m) :
  Calls Tryz.prog 39 #[.agg #[.int .i64 m.inn, .int .i64 m.out, m.bans.1, m.book.1, m.parts.1, m.locks.1], .int .i64 k] w fun e w' => e = .returned (.agg #[.int .i64 (lkOf m k).b, (lkOf m k).v]) ∧ Below w.heap.size w w' := by
 have hL := lkOf_at h k
 obtain ⟨a1, a2, a3, a4, c1, c2, c3, c4, e1, e2, e3, e4⟩ := mm_slices h
 obtain ⟨_, a5, c5, e5, _⟩ := ins_open hL
 obtain ⟨hm, p, c, e6, h3⟩ := lks_open h.2.2.2.1
 have hkk : lkOf m k = getAt m.locks.2 k zeroLk := rfl
 rw [e1, e2, e3, e6, e5]
 rw [e4] at e6
 clear e1 e2 e3 e4 e6 hL h
 generalize m.inn = x0; generalize m.out = x1; generalize m.bans.2.length = n1; generalize m.book.2.length = n2; generalize m.parts.2.length = n3
 generalize m.locks.2 = L at *
 by_cases hk : 0 ≤ k ∧ k < (L.length : Int)
 ·obtain ⟨j, rfl⟩ : ∃ j : Nat, k = (j : Int) := ⟨k.toNat, by omega⟩
  obtain ⟨x, hx⟩ : ∃ x, L[j]? = some x := ⟨_, List.getElem?_eq_getElem (by omega)⟩
  have hkx : lkOf m (j : Int) = x := by rw [hkk]; unfold getAt; rw [if_pos hk.1, Int.toNat_natCast, List.getD_eq_getElem?_getD, hx]; rfl
  rw [hkx] at e5 ⊢
  obtain ⟨b, o, rfl, h4, h5, h6⟩ := h3 (by omega)
  obtain ⟨k0, k1⟩ := h6 j x hx
  rw [e5] at k1
  have q1 : ¬ (j : Int) < 0 := by omega
  have q2 : ¬ (L.length : Int) ≤ (j : Int) := by omega
  have q3 : (j : Int) < (L.length : Int) := by omega
  have q4 : (0 : Int) ≤ (j : Int) := by omega
  generalize x.l.length = nx at *
  generalize x.b = xb at *
  clear e5 hkx hkk hx h3 h6
  go_enter Tryz.func39, Tryz.ntmps39
  go_wp2_with fail
  refine bodyPost_named fun W9 h9 => ?_
  have e90 : W9.cell? ⟨w.heap.size + 1, 0, none⟩ = some (.int .i64 xb) := by subst h9; (first | (simp [go_sem, *]; done) | (simp (disch := first | omega | (simp; omega) | (simp [go_sem, *]; done)) [go_sem, World.cell?_setCell_far, World.cell?_alloc_past, *]; done))
  have e91 : W9.cell? ⟨w.heap.size + 1, 1, none⟩ = some (.slice a5 nx c5) := by subst h9; (first | (simp [go_sem, *]; done) | (simp (disch := first | omega | (simp; omega) | (simp [go_sem, *]; done)) [go_sem, World.cell?_setCell_far, World.cell?_alloc_past, *]; done))
  have b9 : Below w.heap.size w W9 := by subst h9; exact bel
  clear h9
  refine bodyPost_ret (v := .agg #[.int .i64 xb, .slice a5 nx c5]) (by simp [results, Tryz.results39, go_sem, e90, e91]) rfl ⟨?_, b9⟩
  rfl
 ·have hkx : lkOf m k = zeroLk := by
   rw [hkk]; unfold getAt
   split
   ·rw [List.getD_eq_getElem?_getD, List.getElem?_eq_none (by omega)]; rfl
   ·rfl
  rw [hkx] at e5 ⊢
  unfold zeroLk at e5 ⊢
  simp only at e5 ⊢
  injection e5 with e5 e7 e8
  subst e5 e8
  clear e7
  simp only [List.length_nil]
  clear hkx hkk h3
  rcases Int.lt_or_le k 0 with q | q
  ·go_enter Tryz.func39, Tryz.ntmps39
   go_wp2_with fail
   refine bodyPost_named fun W9 h9 => ?_
   have e90 : W9.cell? ⟨w.heap.size + 1, 0, none⟩ = some (.int .i64 0) := by subst h9; (first | (simp [go_sem, *]; done) | (simp (disch := first | omega | (simp; omega) | (simp [go_sem, *]; done)) [go_sem, World.cell?_setCell_far, World.cell?_alloc_past, *]; done))
   have e91 : W9.cell? ⟨w.heap.size + 1, 1, none⟩ = some (.slice none 0 0) := by subst h9; (first | (simp [go_sem, *]; done) | (simp (disch := first | omega | (simp; omega) | (simp [go_sem, *]; done)) [go_sem, World.cell?_setCell_far, World.cell?_alloc_past, *]; done))
   have b9 : Below w.heap.size w W9 := by subst h9; exact bel
   clear h9
   refine bodyPost_ret (v := .agg #[.int .i64 0, .slice none 0 0]) (by simp [results, Tryz.results39, go_sem, e90, e91]) rfl ⟨?_, b9⟩
   rfl
  ·have q1 : ¬ k < 0 := by omega
   have q2 : (L.length : Int) ≤ k := by omega
   go_enter Tryz.func39, Tryz.ntmps39
   go_wp2_with fail
   refine bodyPost_named fun W9 h9 => ?_
   have e90 : W9.cell? ⟨w.heap.size + 1, 0, none⟩ = some (.int .i64 0) := by subst h9; (first | (simp [go_sem, *]; done) | (simp (disch := first | omega | (simp; omega) | (simp [go_sem, *]; done)) [go_sem, World.cell?_setCell_far, World.cell?_alloc_past, *]; done))
   have e91 : W9.cell? ⟨w.heap.size + 1, 1, none⟩ = some (.slice none 0 0) := by subst h9; (first | (simp [go_sem, *]; done) | (simp (disch := first | omega | (simp; omega) | (simp [go_sem, *]; done)) [go_sem, World.cell?_setCell_far, World.cell?_alloc_past, *]; done))
   have b9 : Below w.heap.size w W9 := by subst h9; exact bel
   clear h9
   refine bodyPost_ret (v := .agg #[.int .i64 0, .slice none 0 0]) (by simp [results, Tryz.results39, go_sem, e90, e91]) rfl ⟨?_, b9⟩
   rfl
theorem zmm {m : Mm} {v1 v2 v3 v4 : Value} (e1 : m.bans.1 = v1) (e2 : m.book.1 = v2) (e3 : m.parts.1 = v3) (e4 : m.locks.1 = v4) : m = ⟨m.inn, m.out, (v1, m.bans.2), (v2, m.book.2), (v3, m.parts.2), (v4, m.locks.2)⟩ := by subst e1 e2 e3 e4; rfl

theorem flat_set2 {α : Type} {f : α → List Value} (hf : ∀ x, ∃ a b, f x = [a, b]) (l : List α) (n : Nat) (x : α) (a b : Value) (hx : f x = [a, b]) : ((l.flatMap f).set (n * 2) a).set (n * 2 + 1) b = (l.set n x).flatMap f ∨ l.length ≤ n := by
 induction l generalizing n with
 | nil => right; simp
 | cons y l ih =>
  obtain ⟨c, d, hy⟩ := hf y
  cases n with
  | zero => left; simp [hx, hy]
  | succ n =>
   rcases ih n with h | h
   ·left
    rw [List.flatMap_cons, List.set_cons_succ, List.flatMap_cons, hy, ← h, show (n + 1) * 2 = (n * 2 + 1) + 1 by omega]
    rfl
   ·right; simp; omega
/-- a row of pairs of which one is another -/
theorem owns_set2 {α : Type} {f : α → List Value} (hf : ∀ x, ∃ a b, f x = [a, b]) {w w' : World} {base g cap n : Nat} {e : TypeId} {l : List α} {cur : List Value} {x : α} {a b : Value} (hx : f x = [a, b]) (hR : RowBlk w e g cap 2 cur) (hc : cur.take (l.length * 2) = l.flatMap f) (hn : n < l.length) (hcap : l.length ≤ cap) (hm : cap ≤ maxLen) (hb : base ≤ g)
  (hB : BlockIs w' g ((cur.set (n * 2) a).set (n * 2 + 1) b) e) : w'.ownsRow base e 2 (.slice (some ⟨g, 0, none⟩) l.length cap) l.length ((l.set n x).flatMap f) := by
 have hl : ∀ x, (f x).length = 2 := fun x => by obtain ⟨a, b, h⟩ := hf x; rw [h]; rfl
 have := blk_owns (e := e) (size := 2) (n := l.length) (cur := (cur.set (n * 2) a).set (n * 2 + 1) b) (cap := cap) ⟨hB, by rw [List.length_set, List.length_set]; exact hR.2⟩ hb hcap hm
 have ht : ((cur.set (n * 2) a).set (n * 2 + 1) b).take (l.length * 2) = (l.set n x).flatMap f := by
  rw [List.take_set, List.take_set, hc]
  rcases flat_set2 hf l n x a b hx with h | h
  ·exact h
  ·omega
 rw [ht] at this
 exact this
/-- a copy that is not empty, opened -/
theorem clone_at {P : Program} {f : FuncId} {args : Array Value} {w : World} {B n : Nat} {ty : TypeId} {xs : List Value} (hn : 0 < n) (h : Calls P f args w fun e w' => ∃ r, e = .returned r ∧ w'.ownsRow B ty 2 r n xs ∧ Below B w w') :
  Calls P f args w fun e w' => ∃ (g cap : Nat) (cur : List Value), e = .returned (.slice (some ⟨g, 0, none⟩) n cap) ∧ B ≤ g ∧ g < w'.heap.size ∧ n ≤ cap ∧ cap ≤ maxLen ∧ RowBlk w' ty g cap 2 cur ∧ cur.take (n * 2) = xs ∧ Below B w w' :=
 h.mono fun e w' ⟨r, he, ho, hb⟩ => by
  have hv : ∃ g cap, r = .slice (some ⟨g, 0, none⟩) n cap := by
   rcases ho.2 with ⟨_, h0⟩ | ⟨g, cap, _, rfl, _⟩
   ·omega
   ·exact ⟨_, _, rfl⟩
  obtain ⟨g, cap, rfl⟩ := hv
  obtain ⟨h1, h2, h3, cur, h4, h5⟩ := owns_blk2 ho
  exact ⟨g, cap, cur, he, h1, (ho.lt g rfl).2, h2, h3, h4, h5, hb⟩
theorem lkV_two (k : Lk) : ∃ a b, lkV k = [a, b] := ⟨_, _, rfl⟩
theorem shV_two (k : Sh) : ∃ a b, shV k = [a, b] := ⟨_, _, rfl⟩
theorem lkV_ones {w : World} {ks : List Lk} (h : ∀ k ∈ ks, ReadsL inV 1 w k.v k.l) : ∀ u ∈ ks.flatMap lkV, u.oneCell' = true := by
 intro u hu
 obtain ⟨k, hk, hu⟩ := List.mem_flatMap.1 hu
 obtain ⟨_, a, c, e, _⟩ := ins_open (h k hk)
 unfold lkV at hu
 rcases List.mem_cons.1 hu with rfl | hu
 ·rfl
 ·rw [List.mem_singleton.1 hu, e]; rfl
theorem shV_ones {w : World} {ks : List Sh} (h : ∀ k ∈ ks, ReadsL peV 10 w k.v k.l) : ∀ u ∈ ks.flatMap shV, u.oneCell' = true := by
 intro u hu
 obtain ⟨k, hk, hu⟩ := List.mem_flatMap.1 hu
 obtain ⟨_, a, c, e, _⟩ := pes_open (h k hk)
 unfold shV at hu
 rcases List.mem_cons.1 hu with rfl | hu
 ·rfl
 ·rw [List.mem_singleton.1 hu, e]; rfl
set_option maxHeartbeats 8000000 in
theorem mem_locked_in (w0 : World → Prop) (hg : Grows w0) (B : Nat) (m : Mm) (n : Nat) (k : Lk) (w : World) (hb0 : w0 w) (hB : B ≤ w.heap.size) (hm : ∀ W, w0 W → MmAt W m) (hk : Firm w0 B w fun W => ReadsL inV 1 W k.v k.l) (hn : n < m.locks.2.length) (hl : m.locks.2.length ≤ 1000) :
  Calls Tryz.prog 42 #[.agg #[.int .i64 m.inn, .int .i64 m.out, m.bans.1, m.book.1, m.parts.1, m.locks.1], .int .i64 n, .agg #[.int .i64 k.b, k.v]] w fun e w' => ∃ v, e = .returned (.agg #[.int .i64 ({ m with locks := (v, m.locks.2.set n k) }).inn, .int .i64 ({ m with locks := (v, m.locks.2.set n k) }).out, ({ m with locks := (v, m.locks.2.set n k) }).bans.1, ({ m with locks := (v, m.locks.2.set n k) }).book.1, ({ m with locks := (v, m.locks.2.set n k) }).parts.1, ({ m with locks := (v, m.locks.2.set n k) }).locks.1]) ∧ Firm w0 B w' (fun W => MmAt W { m with locks := (v, m.locks.2.set n k) }) ∧ Below w.heap.size w w' := by
 have h := hm w hb0
 have HM := zh hm
 have HK := zh hk
 obtain ⟨a1, a2, a3, a4, c1, c2, c3, c4, e1, e2, e3, e4⟩ := mm_slices h
 obtain ⟨_, a5, c5, e5, _⟩ := ins_open (hk.now hb0)
 have HC := zh (fun (W : World) (hb : Below w.heap.size w W) => cloneLk m.locks.1 m.locks.2.length (m.locks.2.flatMap lkV) W (ReadsL.below h.2.2.2.1 hb) (lkV_ones h.2.2.2.2) (by omega))
 have hV : lkV k = [.int .i64 k.b, k.v] := rfl
 have HV := zh hV
 simp only [e1, e2, e3, e4] at HC ⊢
 rw [e5] at hV ⊢
 clear e1 e2 e3 e4 h hk hV hm hg
 obtain ⟨x0, x1, ⟨y1, z1⟩, ⟨y2, z2⟩, ⟨y3, z3⟩, ⟨y4, z4⟩⟩ := m
 simp only at *
 obtain ⟨L, hL⟩ : ∃ L, L = z4 := ⟨_, rfl⟩
 subst hL
 obtain ⟨n1, hn1, n2, hn2, n3, hno⟩ := nz3 z1.length z2.length z3.length
 rw [← hn1, ← hn2, ← hno]
 generalize hkb : k.b = kb at *
 generalize hkl : k.l.length = kn at *
 obtain ⟨HE5, HN1, HN2, HNO, HKB, HKL⟩ := zh6 e5 hn1 hn2 hno hkb hkl
 clear e5 hn1 hn2 hno hkb hkl
 have q1 : ¬ (n : Int) < 0 := by omega
 have q2 : ¬ (L.length : Int) ≤ (n : Int) := by omega
 have q3 : (n : Int) < (L.length : Int) := by omega
 have q4 : (0 : Int) ≤ (n : Int) := by omega
 have hpos : 0 < L.length := by omega
 have HCA := zh (fun W hb => clone_at hpos (HC.out W hb))
 clear HC
 go_enter Tryz.func42, Tryz.ntmps42
 go_wp2_with (go_at_call 70; (with_reducible refine (HCA.out _ (by exact bel)).mono ?_); rintro e w1 ⟨g, cap, cur, rfl, hBg, hgl, hnc, hcm, hR, hcur, b1⟩; have b1o := b1; simp only [World.size_alloc] at hBg b1; have zz1 := b1.size; have hRB : BlockIs w1 g cur 90 := hR.1; have hcl := hR.2; obtain ⟨HR, HCUR⟩ := zh2 hR hcur; have g0 := hRB.cell (i := n * 2) (List.getElem?_eq_getElem (by omega)); have g1 := hRB.cell (i := n * 2 + 1) (List.getElem?_eq_getElem (by omega)); have gf := hRB.frozen; have hBox : BlockIs w1 w.heap.size [.int .i64 x0, .int .i64 x1, .slice a1 n1 c1, .slice a2 n2 c2, .slice a3 n3 c3, .slice a4 L.length c4] 40 := (((BlockIs.new w [.int .i64 x0, .int .i64 x1, .slice a1 n1 c1, .slice a2 n2 c2, .slice a3 n3 c3, .slice a4 L.length c4] _).alloc' _).alloc' _).below b1o; have hKb : BlockIs w1 (w.heap.size + 1) [.int .i64 kb, .slice a5 kn c5] 90 := ((BlockIs.newAt' (w.alloc (.cells #[.int .i64 x0, .int .i64 x1, .slice a1 n1 c1, .slice a2 n2 c2, .slice a3 n3 c3, .slice a4 L.length c4] 40)) [.int .i64 kb, .slice a5 kn c5] _ (by simp)).alloc' _).below b1o; obtain ⟨m00, m01, m02, m03, m04, m05⟩ := hBox.e6; have m0f := hBox.frozen; have m0l := hBox.lt; obtain ⟨k00, k01⟩ := hKb.e2; have k0f := hKb.frozen; have k0l := hKb.lt; have nB : w.heap.size ≠ g := (by omega); have nB2 : g ≠ w.heap.size := (by omega); have nB3 : g ≠ w.heap.size + 1 := (by omega); have nB4 : g ≠ w.heap.size + 1 + 1 := (by omega); have hRes : BlockIs w1 (w.heap.size + 1 + 1) [.int .i64 0, .int .i64 0, .slice none 0 0, .slice none 0 0, .slice none 0 0, .slice none 0 0] 40 := (BlockIs.newAt' ((w.alloc (.cells #[.int .i64 x0, .int .i64 x1, .slice a1 n1 c1, .slice a2 n2 c2, .slice a3 n3 c3, .slice a4 L.length c4] 40)).alloc (.cells #[.int .i64 kb, .slice a5 kn c5] 90)) [.int .i64 0, .int .i64 0, .slice none 0 0, .slice none 0 0, .slice none 0 0, .slice none 0 0] _ (by simp)).below b1o; obtain ⟨r00, r01, r02, r03, r04, r05⟩ := hRes.e6; have r0f := hRes.frozen; have r0l := hRes.lt)
 refine bodyPost_named fun W9 h9 => ?_
 have hRes9 : BlockIs W9 (w.heap.size + 1 + 1) [.int .i64 x0, .int .i64 x1, .slice a1 n1 c1, .slice a2 n2 c2, .slice a3 n3 c3, .slice (some ⟨g, 0, none⟩) L.length cap] 40 := by subst h9; exact rcx hRes
 have hG9 : BlockIs W9 g ((cur.set (n * 2) (.int .i64 kb)).set (n * 2 + 1) (.slice a5 kn c5)) 90 := by subst h9; exact rcx hRB
 have b9 : Below w.heap.size w W9 := by subst h9; exact bel
 clear h9
 obtain ⟨e90, e91, e92, e93, e94, e95⟩ := hRes9.e6
 have hx : lkV k = [.int .i64 kb, .slice a5 kn c5] := by rw [HV.out, HE5.out]
 have ho := owns_set2 lkV_two hx HR.out HCUR.out hn hnc hcm (Nat.le_refl g) hG9
 have hF : Firm w0 B W9 (fun W => MmAt W ⟨x0, x1, (y1, z1), (y2, z2), (y3, z3), (.slice (some ⟨g, 0, none⟩) L.length cap, L.set n k)⟩) := fun W h0 hkp => by
  have hmm := HM.out W h0
  have ho2 := owns_held ho fun g' arr hg hb => hkp g' arr _ (by omega) hb
  have hnew : ReadsLk W (.slice (some ⟨g, 0, none⟩) L.length cap) (L.set n k) := ⟨by unfold ReadsL; rw [List.length_set]; exact owns_reads ho2, fun q hq => by
   rcases List.mem_or_eq_of_mem_set hq with hq | rfl
   ·exact hmm.2.2.2.2 q hq
   ·exact HK.out W h0 fun b arr T h1 h2 => hkp b arr T h1 (h2.below b9)⟩
  exact ⟨hmm.1, hmm.2.1, hmm.2.2.1, hnew⟩
 exact bodyPost_ret (v := .agg #[.int .i64 x0, .int .i64 x1, .slice a1 n1 c1, .slice a2 n2 c2, .slice a3 n3 c3, .slice (some ⟨g, 0, none⟩) L.length cap]) (by simp [results, Tryz.results42, go_sem, e90, e91, e92, e93, e94, e95]) rfl ⟨_, rfl, hF, b9⟩
set_option maxHeartbeats 8000000 in
theorem mem_part_in (w0 : World → Prop) (hg : Grows w0) (B : Nat) (m : Mm) (n : Nat) (k : Sh) (w : World) (hb0 : w0 w) (hB : B ≤ w.heap.size) (hm : ∀ W, w0 W → MmAt W m) (hk : Firm w0 B w fun W => ReadsL peV 10 W k.v k.l) (hn : n < m.parts.2.length) (hl : m.parts.2.length ≤ 1000) :
  Calls Tryz.prog 75 #[.agg #[.int .i64 m.inn, .int .i64 m.out, m.bans.1, m.book.1, m.parts.1, m.locks.1], .int .i64 n, .agg #[.int .i64 k.size, k.v]] w fun e w' => ∃ v, e = .returned (.agg #[.int .i64 ({ m with parts := (v, m.parts.2.set n k) }).inn, .int .i64 ({ m with parts := (v, m.parts.2.set n k) }).out, ({ m with parts := (v, m.parts.2.set n k) }).bans.1, ({ m with parts := (v, m.parts.2.set n k) }).book.1, ({ m with parts := (v, m.parts.2.set n k) }).parts.1, ({ m with parts := (v, m.parts.2.set n k) }).locks.1]) ∧ Firm w0 B w' (fun W => MmAt W { m with parts := (v, m.parts.2.set n k) }) ∧ Below w.heap.size w w' := by
 have h := hm w hb0
 have HM := zh hm
 have HK := zh hk
 obtain ⟨a1, a2, a3, a4, c1, c2, c3, c4, e1, e2, e3, e4⟩ := mm_slices h
 obtain ⟨_, a5, c5, e5, _⟩ := pes_open (hk.now hb0)
 have HC := zh (fun (W : World) (hb : Below w.heap.size w W) => cloneSh m.parts.1 m.parts.2.length (m.parts.2.flatMap shV) W (ReadsL.below h.2.2.1.1 hb) (shV_ones h.2.2.1.2) (by omega))
 have hV : shV k = [.int .i64 k.size, k.v] := rfl
 have HV := zh hV
 simp only [e1, e2, e3, e4] at HC ⊢
 rw [e5] at hV ⊢
 clear e1 e2 e3 e4 h hk hV hm hg
 obtain ⟨x0, x1, ⟨y1, z1⟩, ⟨y2, z2⟩, ⟨y3, z3⟩, ⟨y4, z4⟩⟩ := m
 simp only at *
 obtain ⟨L, hL⟩ : ∃ L, L = z3 := ⟨_, rfl⟩
 subst hL
 obtain ⟨n1, hn1, n2, hn2, n4, hno⟩ := nz3 z1.length z2.length z4.length
 rw [← hn1, ← hn2, ← hno]
 generalize hkb : k.size = kb at *
 generalize hkl : k.l.length = kn at *
 obtain ⟨HE5, HN1, HN2, HNO, HKB, HKL⟩ := zh6 e5 hn1 hn2 hno hkb hkl
 clear e5 hn1 hn2 hno hkb hkl
 have q1 : ¬ (n : Int) < 0 := by omega
 have q2 : ¬ (L.length : Int) ≤ (n : Int) := by omega
 have q3 : (n : Int) < (L.length : Int) := by omega
 have q4 : (0 : Int) ≤ (n : Int) := by omega
 have hpos : 0 < L.length := by omega
 have HCA := zh (fun W hb => clone_at hpos (HC.out W hb))
 clear HC
 go_enter Tryz.func75, Tryz.ntmps75
 go_wp2_with (go_at_call 97; (with_reducible refine (HCA.out _ (by exact bel)).mono ?_); rintro e w1 ⟨g, cap, cur, rfl, hBg, hgl, hnc, hcm, hR, hcur, b1⟩; have b1o := b1; simp only [World.size_alloc] at hBg b1; have zz1 := b1.size; have hRB : BlockIs w1 g cur 112 := hR.1; have hcl := hR.2; obtain ⟨HR, HCUR⟩ := zh2 hR hcur; have g0 := hRB.cell (i := n * 2) (List.getElem?_eq_getElem (by omega)); have g1 := hRB.cell (i := n * 2 + 1) (List.getElem?_eq_getElem (by omega)); have gf := hRB.frozen; have hBox : BlockIs w1 w.heap.size [.int .i64 x0, .int .i64 x1, .slice a1 n1 c1, .slice a2 n2 c2, .slice a3 L.length c3, .slice a4 n4 c4] 40 := (((BlockIs.new w [.int .i64 x0, .int .i64 x1, .slice a1 n1 c1, .slice a2 n2 c2, .slice a3 L.length c3, .slice a4 n4 c4] _).alloc' _).alloc' _).below b1o; have hKb : BlockIs w1 (w.heap.size + 1) [.int .i64 kb, .slice a5 kn c5] 112 := ((BlockIs.newAt' (w.alloc (.cells #[.int .i64 x0, .int .i64 x1, .slice a1 n1 c1, .slice a2 n2 c2, .slice a3 L.length c3, .slice a4 n4 c4] 40)) [.int .i64 kb, .slice a5 kn c5] _ (by simp)).alloc' _).below b1o; obtain ⟨m00, m01, m02, m03, m04, m05⟩ := hBox.e6; have m0f := hBox.frozen; have m0l := hBox.lt; obtain ⟨k00, k01⟩ := hKb.e2; have k0f := hKb.frozen; have k0l := hKb.lt; have nB : w.heap.size ≠ g := (by omega); have nB2 : g ≠ w.heap.size := (by omega); have nB3 : g ≠ w.heap.size + 1 := (by omega); have nB4 : g ≠ w.heap.size + 1 + 1 := (by omega); have hRes : BlockIs w1 (w.heap.size + 1 + 1) [.int .i64 0, .int .i64 0, .slice none 0 0, .slice none 0 0, .slice none 0 0, .slice none 0 0] 40 := (BlockIs.newAt' ((w.alloc (.cells #[.int .i64 x0, .int .i64 x1, .slice a1 n1 c1, .slice a2 n2 c2, .slice a3 L.length c3, .slice a4 n4 c4] 40)).alloc (.cells #[.int .i64 kb, .slice a5 kn c5] 112)) [.int .i64 0, .int .i64 0, .slice none 0 0, .slice none 0 0, .slice none 0 0, .slice none 0 0] _ (by simp)).below b1o; obtain ⟨r00, r01, r02, r03, r04, r05⟩ := hRes.e6; have r0f := hRes.frozen; have r0l := hRes.lt)
 refine bodyPost_named fun W9 h9 => ?_
 have hRes9 : BlockIs W9 (w.heap.size + 1 + 1) [.int .i64 x0, .int .i64 x1, .slice a1 n1 c1, .slice a2 n2 c2, .slice (some ⟨g, 0, none⟩) L.length cap, .slice a4 n4 c4] 40 := by subst h9; exact rcx hRes
 have hG9 : BlockIs W9 g ((cur.set (n * 2) (.int .i64 kb)).set (n * 2 + 1) (.slice a5 kn c5)) 112 := by subst h9; exact rcx hRB
 have b9 : Below w.heap.size w W9 := by subst h9; exact bel
 clear h9
 obtain ⟨e90, e91, e92, e93, e94, e95⟩ := hRes9.e6
 have hx : shV k = [.int .i64 kb, .slice a5 kn c5] := by rw [HV.out, HE5.out]
 have ho := owns_set2 shV_two hx HR.out HCUR.out hn hnc hcm (Nat.le_refl g) hG9
 have hF : Firm w0 B W9 (fun W => MmAt W ⟨x0, x1, (y1, z1), (y2, z2), (.slice (some ⟨g, 0, none⟩) L.length cap, L.set n k), (y4, z4)⟩) := fun W h0 hkp => by
  have hmm := HM.out W h0
  have ho2 := owns_held ho fun g' arr hg hb => hkp g' arr _ (by omega) hb
  have hnew : ReadsSh W (.slice (some ⟨g, 0, none⟩) L.length cap) (L.set n k) := ⟨by unfold ReadsL; rw [List.length_set]; exact owns_reads ho2, fun q hq => by
   rcases List.mem_or_eq_of_mem_set hq with hq | rfl
   ·exact hmm.2.2.1.2 q hq
   ·exact HK.out W h0 fun b arr T h1 h2 => hkp b arr T h1 (h2.below b9)⟩
  exact ⟨hmm.1, hmm.2.1, hnew, hmm.2.2.2⟩
 exact bodyPost_ret (v := .agg #[.int .i64 x0, .int .i64 x1, .slice a1 n1 c1, .slice a2 n2 c2, .slice (some ⟨g, 0, none⟩) L.length cap, .slice a4 n4 c4]) (by simp [results, Tryz.results75, go_sem, e90, e91, e92, e93, e94, e95]) rfl ⟨_, rfl, hF, b9⟩
end Go.Proofs.YtnplgagaoeckoaaGreat
