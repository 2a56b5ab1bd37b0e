/- Texts put together: Open, OpenS, PlMem. No condition. -/
import Derived.Test.YtnplgagaoeckoaaGreatRuzzvrjikhw
import Derived.Test.YtnplgagaoeckoaaGreatRrjxbgxemzo
import Derived.ProofKit
import Derived.OpenShut
import Derived.ShutString
import Derived.SliceStrings
import Derived.Test.YtnplgagaoeckoaaGreatRows
import Derived.Deep.Slices
import Derived.KernelRfl
import Derived.Test.YtnplgagaoeckoaaGreatRshgxludich
set_option linter.unusedSimpArgs false
set_option linter.unusedVariables false
namespace Go.Proofs.YtnplgagaoeckoaaGreat
open Go.ChangeShapes Go.WideShapes Go.ChangeAt Go.RowKit
section
variable {H : Type} {enc : TypeId × Value → H} {P : Program} {W : World}
theorem trod_lt' {t : TypeId} {v : Value} {d : DataW H} {ps : List MemPlace} (h : DataW.Trod enc P W 0 (fun _ => true) true t v d ps) : ∀ x ∈ ps, x.block < W.heap.size := by
 obtain ⟨m, hm⟩ := h; exact DataW.trod_lt m _ _ _ hm
end
end Go.Proofs.YtnplgagaoeckoaaGreat
namespace Go.Proofs.YtnplgagaoeckoaaGreat
open Go.ChangeShapes Go.WideShapes Go.ChangeAt Go.RowKit Go.Deep
/-- what reads at type t is laid out as f lays out a datum -/
def Opens {α : Type} (P : Program) (t : TypeId) (f : α → List Value) (good : α → Prop) : Prop :=
 ∀ (H : Type) (enc : TypeId × Value → H) (w : World) (base : Nat) (spare : Nat → Bool) (held : Bool) (fuel : Nat) (cs : List Value) (x : DataW H × List MemPlace), DataW.trod enc P w base spare held fuel t cs = some x → ∃ d, good d ∧ cs = f d
theorem opens_i64 {P : Program} {t : TypeId} (ht : P.underlying t = some (.int .i64)) : Opens P t (fun n : Int => [.int .i64 n]) (fun n => -9223372036854775808 ≤ n ∧ n ≤ 9223372036854775807) := by
 intro H enc w base spare held fuel cs x h
 obtain ⟨n, h1, _, h3⟩ := DataW.trod_int ht h
 exact ⟨n, by simpa [Lit.wf, IntKind.min, IntKind.max, IntKind.signed, IntKind.bits] using h3, h1⟩
theorem opens_u64 {P : Program} {t : TypeId} (ht : P.underlying t = some (.int .u64)) : Opens P t (fun n : Nat => [.int .u64 n]) (fun n => n < 18446744073709551616) := by
 intro H enc w base spare held fuel cs x h
 obtain ⟨n, h1, _, h3⟩ := DataW.trod_int ht h
 have h3 : 0 ≤ n ∧ n ≤ 18446744073709551615 := by simpa [Lit.wf, IntKind.min, IntKind.max, IntKind.signed, IntKind.bits] using h3
 exact ⟨n.toNat, by omega, by rw [h1]; congr 2; omega⟩
theorem opens_bool {P : Program} {t : TypeId} (ht : P.underlying t = some .bool) : Opens P t (fun b : Bool => [.bool b]) (fun _ => True) := by
 intro H enc w base spare held fuel cs x h
 obtain ⟨b, h1, _⟩ := DataW.trod_bool ht h
 exact ⟨b, trivial, h1⟩
theorem all_list {α : Type} {Q : Nat → α → Prop} : ∀ n : Nat, (∀ i, i < n → ∃ d, Q i d) → ∃ l : List α, l.length = n ∧ ∀ i d, l[i]? = some d → Q i d := by
 intro n
 induction n with
 | zero => intro _; exact ⟨[], rfl, fun i d h => by simp at h⟩
 | succ n ih =>
  intro h
  obtain ⟨l, h1, h2⟩ := ih (fun i hi => h i (by omega))
  obtain ⟨d, hd⟩ := h n (by omega)
  refine ⟨l ++ [d], by simp [h1], fun i e he => ?_⟩
  by_cases hi : i < l.length
  ·rw [List.getElem?_append_left hi] at he; exact h2 i e he
  ·have hl := (List.getElem?_eq_some_iff.1 he).1
   simp at hl
   obtain rfl : i = l.length := by omega
   rw [List.getElem?_append_right (Nat.le_refl _)] at he
   simp at he; subst he; rw [h1]; exact hd
theorem addr_add0 (b o j : Nat) : (⟨b, o, none⟩ : Addr).add j = ⟨b, o + j, none⟩ := by unfold Addr.add; split <;> simp_all
theorem addr_spot {w : World} {a : Addr} {v : Value} (h : w.cell? (a.add 0) = some v) : a.spot = none := by
 unfold World.cell? at h
 cases hsp : a.spot with
 | none => rfl
 | some q =>
  have : (a.add 0).spot.isSome = true := by unfold Addr.add; rw [if_pos rfl, hsp]; rfl
  split at h
  ·rw [if_pos this] at h; cases h
  ·cases h
section
variable {H : Type} {enc : TypeId × Value → H} {P : Program} {W : World}
/-- a struct by value -/
theorem open_struct {r : Reach} {base : Nat} {t : TypeId} {v : Value} {d : DataW H} {ps : List MemPlace} {α : Type} {f : α → List Value} {good : α → Prop} {fs : Array Field} (O : Opens P t f good) (ht : P.underlying t = some (.struct fs))
  (hval : Value.okWide P W r base t v) (h : DataW.Trod enc P W 0 (fun _ => true) true t v d ps) : ∃ x : α, v = .agg (f x).toArray ∧ good x := by
 obtain ⟨cs, rfl, _⟩ := okWide_struct ht hval
 obtain ⟨fuel, hf⟩ := h
 obtain ⟨x, h1, h2⟩ := O H enc W _ _ _ _ _ _ hf
 refine ⟨x, ?_, h1⟩
 simp only [Value.cells] at h2
 rw [← h2]
end
/-- the fields of a struct, from some offset on: m cells in all -/
def OpensF {α : Type} (P : Program) (fs : List Field) (off m : Nat) (f : α → List Value) (good : α → Prop) : Prop :=
 ∀ (H : Type) (enc : TypeId × Value → H) (w : World) (base : Nat) (spare : Nat → Bool) (held : Bool) (fuel : Nat) (cs : List Value),
  (∀ (i : Nat) (fd : Field), fs[i]? = some fd → ∃ y, DataW.trod enc P w base spare held fuel fd.type ((cs.drop fd.offset).take (P.cellsOf fd.type)) = some y) → ∃ d, good d ∧ (cs.drop off).take m = f d
theorem opensF_nil {P : Program} {off : Nat} : OpensF P [] off 0 (fun _ : Unit => []) (fun _ => True) := by
 intro H enc w base spare held fuel cs _; exact ⟨(), trivial, by simp⟩
theorem opensF_cons {P : Program} {fd : Field} {fs : List Field} {off n m : Nat} {α β : Type} {g : α → List Value} {f : β → List Value} {good1 : α → Prop} {good2 : β → Prop} (O : Opens P fd.type g good1) (hn : P.cellsOf fd.type = n) (ho : fd.offset = off) (R : OpensF P fs (off + n) m f good2) :
  OpensF P (fd :: fs) off (n + m) (fun p : α × β => g p.1 ++ f p.2) (fun p => good1 p.1 ∧ good2 p.2) := by
 intro H enc w base spare held fuel cs h
 obtain ⟨y, hy⟩ := h 0 fd rfl
 obtain ⟨a, h1, h2⟩ := O H enc w _ _ _ _ _ _ hy
 obtain ⟨b, h3, h4⟩ := R H enc w base spare held fuel cs (fun i fd' hi => h (i + 1) fd' (by simpa using hi))
 refine ⟨(a, b), ⟨h1, h3⟩, ?_⟩
 rw [ho, hn] at h2
 rw [List.take_add, h2, List.drop_drop, h4]
theorem opens_of_fields {P : Program} {t : TypeId} {fs : Array Field} {m : Nat} {α : Type} {f : α → List Value} {good : α → Prop} (ht : P.underlying t = some (.struct fs)) (R : OpensF P fs.toList 0 m f good) (hc : P.cellsOf t = m) : Opens P t f good := by
 intro H enc w base spare held fuel cs x h
 obtain ⟨xs, n, _, _, hlen, hxl, hf⟩ := DataW.trod_struct ht h
 obtain ⟨d, h1, h2⟩ := R H enc w base spare held n cs (fun i fd hi => by
  have hi' : fs[i]? = some fd := by rw [← Array.getElem?_toList]; exact hi
  have := (Array.getElem?_eq_some_iff.1 hi').1
  exact ⟨_, (hf i fd hi').trans (List.getElem?_eq_getElem (l := xs) (i := i) (by rw [hxl]; exact this))⟩)
 refine ⟨d, h1, ?_⟩
 rw [List.drop_zero, List.take_of_length_le (by rw [hlen, hc]; exact Nat.le_refl _)] at h2
 exact h2
theorem Opens.map {P : Program} {t : TypeId} {α β : Type} {f : α → List Value} {g : β → List Value} {good : α → Prop} {good' : β → Prop} (O : Opens P t f good) (h : ∀ d, good d → ∃ d', good' d' ∧ f d = g d') : Opens P t g good' := by
 intro H enc w base spare held fuel cs x hx
 obtain ⟨d, h1, h2⟩ := O H enc w _ _ _ _ _ _ hx
 obtain ⟨d', h3, h4⟩ := h d h1
 exact ⟨d', h3, by rw [h2, h4]⟩
def adV (a : Ad) : List Value := [.bool a.v6, .int .u64 a.hi, .int .u64 a.lo]
def enV (e : En) : List Value := [.bool e.ad.v6, .int .u64 e.ad.hi, .int .u64 e.ad.lo, .int .i64 e.port]
def En.fits (e : En) : Prop := e.ad.fits ∧ -9223372036854775808 ≤ e.port ∧ e.port ≤ 9223372036854775807
def It.fits (x : It) : Prop := -9223372036854775808 ≤ x.key ∧ x.key ≤ 9223372036854775807 ∧ x.en.fits
theorem opens_addr : Opens Tryz.prog 46 adV Ad.fits :=
 (opens_of_fields Tryz.underlying46 (opensF_cons (n := 1) (opens_bool Tryz.underlying4) (by kernel_rfl) rfl (opensF_cons (n := 1) (opens_u64 Tryz.underlying22) (by kernel_rfl) rfl (opensF_cons (n := 1) (opens_u64 Tryz.underlying22) (by kernel_rfl) rfl opensF_nil))) (by kernel_rfl)).map
  fun ⟨a, b, c, _⟩ ⟨_, h1, h2, _⟩ => ⟨⟨a, b, c⟩, ⟨h1, h2⟩, rfl⟩
theorem opens_end : Opens Tryz.prog 48 enV En.fits :=
 (opens_of_fields Tryz.underlying48 (opensF_cons (n := 3) opens_addr (by kernel_rfl) rfl (opensF_cons (n := 1) (opens_i64 Tryz.underlying3) (by kernel_rfl) rfl opensF_nil)) (by kernel_rfl)).map
  fun ⟨a, b, _⟩ ⟨h1, h2, _⟩ => ⟨⟨a, b⟩, ⟨h1, h2⟩, rfl⟩
end Go.Proofs.YtnplgagaoeckoaaGreat
namespace Go.Proofs.YtnplgagaoeckoaaGreat
open Go.RowKit
structure Pm where
 inn : Int
 out : Int
 bans : List Ba
 book : List Ey
 parts : List (Int × List Pe)
 locks : List (Int × List Int)
/-- what is told -/
structure Vp where
 n : Int
 pe : Pe
 bans : List Ba
 book : List Ey
def zeroVp : Vp := ⟨0, zeroPe, [], []⟩
def setAt {α : Type} (l : List α) (k : Int) (x : α) : List α := if 0 ≤ k then l.set k.toNat x else l
def getAt {α : Type} (l : List α) (k : Int) (d : α) : α := if 0 ≤ k then l.getD k.toNat d else d
def lockP (m : Pm) (k : Int) : Int × List Int := getAt m.locks k (0, [])
def mayP (m : Pm) (o : Oq) : Bool := opRight o m.parts.length && (if o.kind = 1 then decide ((lockP m o.lock).1 = 0) && decide ((lockP m o.lock).2 = []) else if o.kind = 2 then decide ((lockP m o.lock).1 = 0) else true)
def lockedP (m : Pm) (n : Int) (k : Int × List Int) : Pm := { m with locks := setAt m.locks n k }
/-- a rising list with one more, once -/
def riseP (l : List Int) (n : Int) : List Int := (l.filter fun x => decide (x < n)) ++ n :: l.filter fun x => decide (n < x)
def partP (m : Pm) (s : Int) : Int × List Pe := getAt m.parts s (0, [])
def slotP (l : List Pe) (t : Int) : Pe := getAt l t zeroPe
def loadP (m : Pm) (k s t : Int) : Vp :=
 if k = 1 then { zeroVp with n := m.inn } else if k = 2 then { zeroVp with n := m.out } else if k = 3 then { zeroVp with bans := m.bans } else if k = 4 then { zeroVp with book := m.book }
 else if k = 5 then { zeroVp with n := (partP m s).1 } else { zeroVp with pe := slotP (partP m s).2 t }
def putP (l : List Pe) (t : Int) (p : Pe) : List Pe := if (l.length : Int) < t then l else l.take t.toNat ++ p :: l.drop (t.toNat + 1)
def storeP (m : Pm) (k s t : Int) (v : Vp) : Pm :=
 if k = 3 then { m with bans := v.bans } else if k = 4 then { m with book := v.book }
 else if k = 5 then { m with parts := setAt m.parts s (v.n, (partP m s).2) }
 else if k = 6 then { m with parts := setAt m.parts s ((partP m s).1, putP (partP m s).2 t v.pe) } else m
def swapP (m : Pm) (k old new : Int) : Pm × Vp :=
 if k = 2 then (if m.out = old then ({ m with out := new }, { zeroVp with n := 1 }) else (m, zeroVp)) else (if m.inn = old then ({ m with inn := new }, { zeroVp with n := 1 }) else (m, zeroVp))
def valP (o : Oq) : Vp := ⟨o.vn, o.pe, o.bans.2, o.book.2⟩
def doP (m : Pm) (o : Oq) (who : Int) : Pm × Vp :=
 if mayP m o = false then (m, zeroVp)
 else if o.kind = 1 then (lockedP m o.lock (who + 1, (lockP m o.lock).2), zeroVp)
 else if o.kind = 2 then (lockedP m o.lock ((lockP m o.lock).1, riseP (lockP m o.lock).2 who), zeroVp)
 else if o.kind = 3 then (lockedP m o.lock (if (lockP m o.lock).1 = who + 1 then 0 else (lockP m o.lock).1, (lockP m o.lock).2), zeroVp)
 else if o.kind = 4 then (lockedP m o.lock ((lockP m o.lock).1, (lockP m o.lock).2.filter fun x => !decide (x = who)), zeroVp)
 else if o.kind = 5 then (m, loadP m o.lk o.ls o.lt)
 else if o.kind = 6 then (storeP m o.lk o.ls o.lt (valP o), zeroVp)
 else if o.kind = 7 then swapP m o.lk o.old o.new
 else (m, zeroVp)
def heldP (m : Pm) (who : Int) : List Nat := (List.range m.locks.length).filter fun i => decide ((m.locks.getD i (0, [])).1 = who + 1) || decide (who ∈ (m.locks.getD i (0, [])).2)
/-- locks: held alone by one, and then shared by nobody; those that share stand rising -/
def LocksOk (m : Pm) : Prop := ∀ k ∈ m.locks, (k.1 = 0 ∨ k.2 = []) ∧ k.2.Pairwise (· < ·)
def SmallP (m : Pm) (N : Nat) : Prop := m.bans.length ≤ 20 ∧ m.book.length ≤ 20 ∧ 1 ≤ m.parts.length ∧ m.parts.length ≤ 8 ∧ (∀ p ∈ m.parts, p.2.length ≤ N) ∧ m.locks.length = m.parts.length + 2 ∧ ∀ k ∈ m.locks, k.2.length ≤ N
theorem getAt_mem {α : Type} {l : List α} {k : Int} {d : α} : getAt l k d ∈ l ∨ getAt l k d = d := by
 unfold getAt
 split
 ·rw [List.getD_eq_getElem?_getD]
  cases h : l[k.toNat]? with
  | none => right; rfl
  | some x => left; exact List.mem_of_getElem? h
 ·right; rfl
theorem setAt_mem {α : Type} {l : List α} {k : Int} {x y : α} (h : y ∈ setAt l k x) : y ∈ l ∨ y = x := by
 unfold setAt at h
 split at h
 ·exact List.mem_or_eq_of_mem_set h
 ·exact Or.inl h
theorem setAt_len {α : Type} (l : List α) (k : Int) (x : α) : (setAt l k x).length = l.length := by unfold setAt; split <;> simp
theorem riseP_len (l : List Int) (n : Int) : (riseP l n).length ≤ l.length + 1 := by
 unfold riseP
 rw [List.length_append, List.length_cons]
 have : (l.filter fun x => decide (x < n)).length + (l.filter fun x => decide (n < x)).length ≤ l.length := by
  induction l with
  | nil => simp
  | cons a r ih => simp only [List.filter_cons, List.length_cons]; split <;> split <;> simp_all <;> omega
 omega
theorem riseP_sorted {l : List Int} (h : l.Pairwise (· < ·)) (n : Int) : (riseP l n).Pairwise (· < ·) := by
 unfold riseP
 rw [List.pairwise_append]
 refine ⟨h.filter _, List.pairwise_cons.2 ⟨fun x hx => of_decide_eq_true (List.mem_filter.1 hx).2, h.filter _⟩, fun a ha b hb => ?_⟩
 have h1 := of_decide_eq_true (List.mem_filter.1 ha).2
 rcases List.mem_cons.1 hb with rfl | hb
 ·exact h1
 ·have h2 := of_decide_eq_true (List.mem_filter.1 hb).2
  omega
theorem putP_len (l : List Pe) (t : Int) (p : Pe) : (putP l t p).length ≤ l.length + 1 := by
 unfold putP
 split
 ·omega
 ·rw [List.length_append, List.length_cons, List.length_take, List.length_drop]; omega
/-- what is done leaves a memory small -/
theorem doP_small {m : Pm} {N : Nat} (h : SmallP m N) (o : Oq) (ho : o.bans.2.length ≤ 20 ∧ o.book.2.length ≤ 20) (who : Int) : SmallP (doP m o who).1 (N + 1) := by
 have up : SmallP m (N + 1) := ⟨h.1, h.2.1, h.2.2.1, h.2.2.2.1, fun p hp => Nat.le_succ_of_le (h.2.2.2.2.1 p hp), h.2.2.2.2.2.1, fun k hk => Nat.le_succ_of_le (h.2.2.2.2.2.2 k hk)⟩
 have hlk : ∀ n (k : Int × List Int), k.2.length ≤ N + 1 → SmallP (lockedP m n k) (N + 1) := fun n k hk => by
  refine ⟨up.1, up.2.1, up.2.2.1, up.2.2.2.1, up.2.2.2.2.1, by show (setAt m.locks n k).length = _; rw [setAt_len]; exact up.2.2.2.2.2.1, fun x hx => ?_⟩
  rcases setAt_mem hx with hx | rfl
  ·exact up.2.2.2.2.2.2 x hx
  ·exact hk
 have hl2 : (lockP m o.lock).2.length ≤ N := by
  rcases getAt_mem (l := m.locks) (k := o.lock) (d := ((0 : Int), ([] : List Int))) with e | e
  ·exact h.2.2.2.2.2.2 _ e
  ·unfold lockP; rw [e]; exact Nat.zero_le _
 have hpt : ∀ s, (partP m s).2.length ≤ N := fun s => by
  rcases getAt_mem (l := m.parts) (k := s) (d := ((0 : Int), ([] : List Pe))) with e | e
  ·exact h.2.2.2.2.1 _ e
  ·unfold partP; rw [e]; exact Nat.zero_le _
 have hpp : ∀ s (p : Int × List Pe), p.2.length ≤ N + 1 → SmallP { m with parts := setAt m.parts s p } (N + 1) := fun s p hp => by
  refine ⟨up.1, up.2.1, by show 1 ≤ (setAt m.parts s p).length; rw [setAt_len]; exact up.2.2.1, by show (setAt m.parts s p).length ≤ 8; rw [setAt_len]; exact up.2.2.2.1, fun x hx => ?_, by show m.locks.length = (setAt m.parts s p).length + 2; rw [setAt_len]; exact up.2.2.2.2.2.1, up.2.2.2.2.2.2⟩
  rcases setAt_mem hx with hx | rfl
  ·exact up.2.2.2.2.1 x hx
  ·exact hp
 unfold doP
 split
 ·exact up
 split
 ·exact hlk _ _ (by show (lockP m o.lock).2.length ≤ _; omega)
 split
 ·exact hlk _ _ (by show (riseP _ _).length ≤ _; have := riseP_len (lockP m o.lock).2 who; omega)
 split
 ·exact hlk _ _ (by show (lockP m o.lock).2.length ≤ _; omega)
 split
 ·exact hlk _ _ (by show (List.filter _ _).length ≤ _; have := List.length_filter_le (fun x => !decide (x = who)) (lockP m o.lock).2; omega)
 split
 ·exact up
 split
 ·show SmallP (storeP m o.lk o.ls o.lt (valP o)) (N + 1)
  unfold storeP
  split
  ·exact ⟨ho.1, up.2.1, up.2.2.1, up.2.2.2.1, up.2.2.2.2.1, up.2.2.2.2.2.1, up.2.2.2.2.2.2⟩
  split
  ·exact ⟨up.1, ho.2, up.2.2.1, up.2.2.2.1, up.2.2.2.2.1, up.2.2.2.2.2.1, up.2.2.2.2.2.2⟩
  split
  ·exact hpp _ _ (by show (partP m o.ls).2.length ≤ _; have := hpt o.ls; omega)
  split
  ·exact hpp _ _ (by show (putP _ _ _).length ≤ _; have := putP_len (partP m o.ls).2 o.lt (valP o).pe; have := hpt o.ls; omega)
  ·exact up
 split
 ·show SmallP (swapP m o.lk o.old o.new).1 (N + 1)
  unfold swapP
  repeat' split
  all_goals exact ⟨up.1, up.2.1, up.2.2.1, up.2.2.2.1, up.2.2.2.2.1, up.2.2.2.2.2.1, up.2.2.2.2.2.2⟩
 ·exact up
/-- THE THEOREM OF LOCKS, PLAIN -/
theorem doP_locks {m : Pm} (h : LocksOk m) (o : Oq) (who : Int) : LocksOk (doP m o who).1 := by
 have hlk : ∀ n (k : Int × List Int), ((k.1 = 0 ∨ k.2 = []) ∧ k.2.Pairwise (· < ·)) → LocksOk (lockedP m n k) := fun n k hk x hx => by
  rcases setAt_mem hx with hx | rfl
  ·exact h x hx
  ·exact hk
 have hl : ((lockP m o.lock).1 = 0 ∨ (lockP m o.lock).2 = []) ∧ (lockP m o.lock).2.Pairwise (· < ·) := by
  rcases getAt_mem (l := m.locks) (k := o.lock) (d := ((0 : Int), ([] : List Int))) with e | e
  ·exact h _ e
  ·unfold lockP; rw [e]; exact ⟨Or.inl rfl, List.Pairwise.nil⟩
 unfold doP
 split
 ·exact h
 rename_i hm
 have hmay : mayP m o = true := by simpa using hm
 unfold mayP at hmay
 rw [Bool.and_eq_true] at hmay
 split
 ·rename_i h1
  rw [if_pos h1, Bool.and_eq_true] at hmay
  have e := of_decide_eq_true hmay.2.2
  exact hlk _ _ ⟨Or.inr e, by show (lockP m o.lock).2.Pairwise _; rw [e]; exact List.Pairwise.nil⟩
 rename_i h1
 split
 ·rename_i h2
  rw [if_neg h1, if_pos h2] at hmay
  exact hlk _ _ ⟨Or.inl (of_decide_eq_true hmay.2), riseP_sorted hl.2 _⟩
 split
 ·refine hlk _ _ ⟨?_, hl.2⟩
  show (if _ then (0 : Int) else _) = 0 ∨ _
  split
  ·exact Or.inl rfl
  ·exact hl.1
 split
 ·refine hlk _ _ ⟨?_, hl.2.filter _⟩
  rcases hl.1 with e | e
  ·exact Or.inl e
  ·right; show List.filter _ _ = []; rw [e]; rfl
 split
 ·exact h
 split
 ·show LocksOk (storeP m o.lk o.ls o.lt (valP o))
  unfold storeP
  repeat' split
  all_goals exact h
 split
 ·show LocksOk (swapP m o.lk o.old o.new).1
  unfold swapP
  repeat' split
  all_goals exact h
 ·exact h
end Go.Proofs.YtnplgagaoeckoaaGreat
