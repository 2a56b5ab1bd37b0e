/- Texts put together: PlSort, SortW, RankF, Shield, ShieldC, Map, Crowd, LawCrowd, ShB, PeSet, SortPW, TabC, SiegeB, OpenW, OpenN, BaV, OpS, Firm, HTail. No condition. -/
import Derived.Sort.Defs
import Derived.Test.YtnplgagaoeckoaaRwfntuomexx
import Derived.Shelf.SlSortCmp.Kit1
import Derived.Test.YtnplgagaoeckoaaRtuqnidevze
import Derived.Test.YtnplgagaoeckoaaRgoffdvcjqt
import Derived.Test.YtnplgagaoeckoaaRruzvpzuhtu
import Derived.Test.YtnplgagaoeckoaaRdvcantiwts
import Derived.Test.YtnplgagaoeckoaaRkoglyikkhn
import Derived.Test.YtnplgagaoeckoaaRrlobibzpyi
import Derived.Test.YtnplgagaoeckoaaRwanvemwziy
import Derived.Test.YtnplgagaoeckoaaRows
import Derived.WalkKit
import Derived.WalkSpells
import Derived.WalkLawsBesides
import Derived.BigGuardPart
import Derived.BigQuiet
import Derived.Deep.QuietTactic
import Derived.Deep.Light
import Derived.Deep.RegionHeld3
import Derived.Deep.DeepCutAuto
import Derived.Sort.WalkA
import Derived.Sort.WalkB2
import Derived.Sort.WalkB12
import Derived.Deep.LoopGhost
import Derived.BigRegion
import Derived.Test.YtnplgagaoeckoaaRxijshrndud
import Derived.Test.YtnplgagaoeckoaaRtivdwfrtfx
import Derived.Maps.Own
import Derived.Maps.Views
import Derived.WideKeyEntry
import Derived.DeepKeys4
import Derived.Test.YtnplgagaoeckoaaRgkgpyosalk
import Derived.Carry
import Derived.Test.YtnplgagaoeckoaaRdebwjsktda
import Derived.Deep.RegionLaw
import Derived.Lib.SliceRun
import Derived.Laws.OwnMore
import Derived.Deep.MidRow
import Derived.RegionTactic
import Derived.Lib.Overlaps
import Derived.Test.YtnplgagaoeckoaaRyikgycwcyx
import Derived.Test.YtnplgagaoeckoaaRocphoolxmk
namespace Go.Proofs.Ytnplgagaoeckoaa
open Go.Sort

section
variable {α : Type}
/-- a weak order -/
structure WO (lt : α → α → Bool) : Prop where
  tr : ∀ {a b c}, lt a b = true → lt b c = true → lt a c = true
  nt : ∀ {a b c}, lt a b = false → lt b c = false → lt a c = false
  asy : ∀ {a b}, lt a b = true → lt b a = false
variable {lt : α → α → Bool}
end

section
variable {α : Type} [Inhabited α]
/-! ### the steps on an array -/
variable (lt : α → α → Bool)
end
end Go.Proofs.Ytnplgagaoeckoaa
namespace Go.Proofs.Ytnplgagaoeckoaa
open Go.Shelf Go.RowKit Go.Lib Go.Sort
variable {P : Program} {α : Type} [Inhabited α] {enc : α → Value} {w0 W : World} {blk off : Nat} {dk d0 : Array α}

def redraw (w : World) (d : Nat) : World := { w with drawn := d }
def SB (enc : α → Value) (w0 : World) (blk off : Nat) (dk : Array α) (W : World) : Prop := ∃ d, SW enc w0 blk off dk (redraw W d)
theorem SB.below (h : SB enc w0 blk off dk W) {w' : World} (hb : Below W.heap.size W w') : SB enc w0 blk off dk w' := by
  obtain ⟨x, rfl⟩ := below_ext hb
  obtain ⟨d, hd⟩ := h
  exact ⟨d, hd.grown 0 x.xs⟩
theorem SB.ext (h : SB enc w0 blk off dk W) (x : Grow) : SB enc w0 blk off dk (Go.Proofs.Ytnplgagaoeckoaa.ext W x) := h.below (ext_below W x)
theorem SB.drew (h : SB enc w0 blk off dk W) : SB enc w0 blk off dk W.drew := by obtain ⟨d, hd⟩ := h; exact ⟨d, hd⟩
theorem SB.c1 (h : SB enc w0 blk off dk W) (R : Row1 enc w0 blk off d0) (hs : dk.size = d0.size) (i : Nat) (hi : i < dk.size) : W.cell? ⟨blk, off + i, none⟩ = some (enc dk[i]!) := by
  obtain ⟨d, hd⟩ := h; exact hd.c1 R hs i hi
theorem SB.f1 (h : SB enc w0 blk off dk W) (R : Row1 enc w0 blk off d0) (hs : dk.size = d0.size) (i : Nat) (hi : i < dk.size) : W.frozen? ⟨blk, off + i, none⟩ = false := by
  obtain ⟨d, hd⟩ := h; exact hd.f1 R hs i hi
theorem SB.c2 (h : SB enc w0 blk off dk W) (R : Row1 enc w0 blk off d0) (hs : dk.size = d0.size) (i j : Nat) (hi : i < dk.size) (hj : j < dk.size) (v : Value) :
    ∃ u, (W.setCell ⟨blk, off + i, none⟩ v).cell? ⟨blk, off + j, none⟩ = some u := by
  obtain ⟨d, hd⟩ := h; exact hd.c2 R hs i j hi hj v
/-- what lay in other blocks is as it was -/
theorem SB.other (h : SB enc w0 blk off dk W) {p : Addr} (hb : p.block ≠ blk) (hl : p.block < w0.heap.size) : W.cell? p = w0.cell? p := by
  obtain ⟨d, n, os, hw⟩ := h
  have e : W.cell? p = (redraw W d).cell? p := rfl
  rw [e, hw]
  unfold sortWorld
  rw [cell?_grow _ _ _ (by rw [size_putRow]; exact hl), cell?_putRow_other _ _ _ _ _ _ (Or.inl hb)]; rfl
theorem SB.size (h : SB enc w0 blk off dk W) : w0.heap.size ≤ W.heap.size := by
  obtain ⟨d, hd⟩ := h; exact hd.le
end Go.Proofs.Ytnplgagaoeckoaa
namespace Go.Proofs.Ytnplgagaoeckoaa
open Go.RowKit
set_option linter.unusedSimpArgs false
set_option linter.unusedVariables false

theorem blk_grown {w w' : World} {U : Nat} {us : List Value} {T : TypeId} {o : Option Nat} (h : BlockIs w U us T) (hg : w.grownBy w' o) (ho : o ≠ some U) : BlockIs w' U us T := by
  unfold BlockIs at *
  rw [hg.block U (BlockIs.lt (show BlockIs w U us T from h)) (fun e => ho e.symm)]; exact h
end Go.Proofs.Ytnplgagaoeckoaa
namespace Go.Proofs.Ytnplgagaoeckoaa
open Go.RowKit
set_option linter.unusedSimpArgs false
set_option linter.unusedVariables false

structure Qu where
  group : Int
  ping : Int
  work : Int
  time : Int
end Go.Proofs.Ytnplgagaoeckoaa
namespace Go.Proofs.Ytnplgagaoeckoaa
open Go.RowKit
set_option linter.unusedSimpArgs false
set_option linter.unusedVariables false

def Qu.fits (q : Qu) : Prop := (-9223372036854775808 ≤ q.group ∧ q.group ≤ 9223372036854775807) ∧ (-9223372036854775808 ≤ q.ping ∧ q.ping ≤ 9223372036854775807) ∧ (-9223372036854775808 ≤ q.work ∧ q.work ≤ 9223372036854775807) ∧ (-9223372036854775808 ≤ q.time ∧ q.time ≤ 9223372036854775807)
theorem owns_setB {w : World} {base n U i : Nat} {e : TypeId} {size : Nat} {v x : Value} {xs us : List Value} {T : TypeId} (h : w.ownsRow base e size v n xs) (hb : BlockIs w U us T) (hne : v.ownBlock ≠ some U) : (w.setCell ⟨U, i, none⟩ x).ownsRow base e size v n xs := by
  obtain ⟨h1, h2⟩ := h
  refine ⟨h1, ?_⟩
  rcases h2 with h2 | ⟨g, cap, cur, rfl, hg, hh, r⟩
  · exact Or.inl h2
  · refine Or.inr ⟨g, cap, cur, rfl, hg, ?_, r⟩
    have hgu : g ≠ U := fun e => hne (by rw [e]; rfl)
    rw [← hh]; exact Below.heap_setCell _ _ _ _ (fun e => hgu e)
end Go.Proofs.Ytnplgagaoeckoaa
namespace Go.Proofs.Ytnplgagaoeckoaa
open Go.ChangeMaps Go.MapKept
open Go.WideElems (Fit rd rg pl rd_key other_key findIdx_arr findIdx_born modify_last set_self)
open Go.Maps (Keyed)

section
variable {P : Program} {k e t : TypeId} {b : Nat}
/-- so many of each key -/
def CM (P : Program) (k e : TypeId) (es : Array MapEntry) (clock n : Nat) (g : Lit → Int) : Prop :=
  Fit P k (plainElem (H := Unit) P e) es clock ∧ es.size ≤ n ∧ ∀ (key : Value) (kl : Lit), keyOf P k key = some kl → (DataW.map ((es.toList.map (rg P k (plainElem (H := Unit) P e))).foldr DataW.insert [])).atKey kl (.lit (.int .i64 0)) = .lit (.int .i64 (g kl))
end
end Go.Proofs.Ytnplgagaoeckoaa
namespace Go.Proofs.Ytnplgagaoeckoaa
open Go.RowKit

def klN (e : Nt) : Lit := .string (keyBytes [.bool e.ad.v6, .int .u64 e.ad.hi, .int .u64 e.ad.lo, .int .i64 e.bits])
def grP (p : Pe) : Nt := grOf p.en.ad
open Classical in
noncomputable def gL (l : List Pe) (x : Lit) : Int := ((l.filter fun p => decide (klN (grP p) = x)).length : Nat)
/-- what a callee that counts gives -/
def Counts (w : World) (M : Nat) (l : List Pe) : Prop := ∃ es clock n, w.heap[M]? = some (.map es clock) ∧ CM Try.prog 72 3 es clock n (gL l)
theorem Counts.lt {w : World} {M : Nat} {l : List Pe} (h : Counts w M l) : M < w.heap.size := by
  obtain ⟨es, clock, n, hb, _⟩ := h
  exact (Array.getElem?_eq_some_iff.1 hb).1
theorem Counts.below {w w' : World} {M : Nat} {l : List Pe} (h : Counts w M l) (hb : Below w.heap.size w w') : Counts w' M l := by
  have hlt := h.lt
  obtain ⟨es, clock, n, hh, hc⟩ := h
  exact ⟨es, clock, n, (hb.block M hlt).trans hh, hc⟩
end Go.Proofs.Ytnplgagaoeckoaa
namespace Go.Proofs.Ytnplgagaoeckoaa
open Go.RowKit
set_option linter.unusedSimpArgs false
set_option linter.unusedVariables false

theorem reads_blkC {α : Type} {f : α → List Value} {n : Nat} {w : World} {B : Nat} {T : TypeId} {l : List α} (hB : BlockIs w B (l.flatMap f) T) (hl : 0 < l.length) (hm : l.length ≤ 9223372036854775807) (hn : (l.flatMap f).length = l.length * n) : ReadsL f n w (.slice (some ⟨B, 0, none⟩) l.length l.length) l :=
  ⟨hn, hm, Or.inr ⟨hl, B, 0, l.length, rfl, Nat.le_refl _, hB.lt, fun j x hj => by rw [Nat.zero_add]; exact hB.cell hj⟩⟩
end Go.Proofs.Ytnplgagaoeckoaa
namespace Go.Proofs.Ytnplgagaoeckoaa
open Go.RowKit Go.Lib

def EnIn (w : World) (b o : Nat) (p : En) : Prop := w.cell? ⟨b, o, none⟩ = some (.bool p.ad.v6) ∧ w.cell? ⟨b, o + 1, none⟩ = some (.int .u64 p.ad.hi) ∧ w.cell? ⟨b, o + 2, none⟩ = some (.int .u64 p.ad.lo) ∧ w.cell? ⟨b, o + 3, none⟩ = some (.int .i64 p.port)
theorem EnIn.below {B : Nat} {w w' : World} {b o : Nat} {p : En} (h : EnIn w b o p) (hb : Below B w w') (hlt : b < B) : EnIn w' b o p := by
  obtain ⟨a0, a1, a2, a3⟩ := h
  exact ⟨keep hb hlt a0, keep hb hlt a1, keep hb hlt a2, keep hb hlt a3⟩
end Go.Proofs.Ytnplgagaoeckoaa
namespace Go.Proofs.Ytnplgagaoeckoaa
open Go.RowKit

def setManyP (xs : List Value) (k : Nat) : List Value → List Value
  | [] => xs
  | u :: us => setManyP (xs.set k u) (k + 1) us
theorem setManyP_get (us : List Value) : ∀ (xs : List Value) (k j : Nat), k + us.length ≤ xs.length → (setManyP xs k us)[j]? = if k ≤ j ∧ j < k + us.length then us[j - k]? else xs[j]? := by
  induction us with
  | nil => intro xs k j _; unfold setManyP; rw [if_neg (by simp only [List.length_nil]; omega)]
  | cons u us ih =>
    intro xs k j h
    simp only [List.length_cons] at h ⊢
    unfold setManyP
    rw [ih _ _ _ (by simp; omega)]
    by_cases h1 : k + 1 ≤ j ∧ j < k + 1 + us.length
    · rw [if_pos h1, if_pos (by omega), show j - k = (j - (k + 1)) + 1 from by omega, List.getElem?_cons_succ]
    · rw [if_neg h1]
      by_cases h2 : j = k
      · subst h2; rw [if_pos (by omega), List.getElem?_set_self (by omega)]; simp
      · rw [if_neg (by omega), List.getElem?_set_ne (fun e => h2 e.symm)]
theorem pe_set (l : List Pe) (i : Nat) (x : Pe) (hi : i < l.length) : (l.set i x).flatMap peV = setManyP (l.flatMap peV) (i * 10) (peV x) := by
  apply List.ext_getElem?
  intro j
  have hle : i * 10 + 10 ≤ l.length * 10 := by omega
  rw [setManyP_get _ _ _ _ (by rw [peV_len, pes_len]; exact hle), peV_len]
  have hj : j = (j / 10) * 10 + j % 10 := by omega
  have hm : j % 10 < 10 := Nat.mod_lt _ (by omega)
  by_cases h1 : i * 10 ≤ j ∧ j < i * 10 + 10
  · rw [if_pos h1]
    have hq : j / 10 = i := by omega
    rw [hq] at hj
    conv => lhs; rw [hj]
    rw [flat_get peV 10 peV_len (l.set i x) i x (by simp [hi]) _ hm]
    congr 1; omega
  · rw [if_neg h1]
    have hq : j / 10 ≠ i := by omega
    rcases Nat.lt_or_ge (j / 10) l.length with hl | hl
    · conv => lhs; rw [hj]
      conv => rhs; rw [hj]
      rw [flat_get peV 10 peV_len (l.set i x) (j / 10) (l[j / 10]'hl) (by rw [List.getElem?_set_ne (fun e => hq e.symm)]; exact List.getElem?_eq_getElem hl) _ hm, flat_get peV 10 peV_len l (j / 10) _ (List.getElem?_eq_getElem hl) _ hm]
    · have hge : l.length * 10 ≤ j := by omega
      rw [List.getElem?_eq_none (by rw [pes_len]; simpa using hge), List.getElem?_eq_none (by rw [pes_len]; exact hge)]
theorem own_setP {w : World} {base g n cap : Nat} {e : TypeId} {l : List Pe} (h : w.ownsRow base e 10 (.slice (some ⟨g, 0, none⟩) n cap) n (l.flatMap peV)) (i : Nat) (p : Pe) (hi : i < l.length) :
    ((((((((((w.setCell ⟨g, i * 10, none⟩ (.bool p.en.ad.v6)).setCell ⟨g, i * 10 + 1, none⟩ (.int .u64 p.en.ad.hi)).setCell ⟨g, i * 10 + 2, none⟩ (.int .u64 p.en.ad.lo)).setCell ⟨g, i * 10 + 3, none⟩ (.int .i64 p.en.port)).setCell ⟨g, i * 10 + 4, none⟩ (.bool p.came)).setCell ⟨g, i * 10 + 5, none⟩ (.int .i64 p.since)).setCell ⟨g, i * 10 + 6, none⟩ (.int .i64 p.pts)).setCell ⟨g, i * 10 + 7, none⟩ (.int .i64 p.at_)).setCell ⟨g, i * 10 + 8, none⟩ (.int .i64 p.ping)).setCell ⟨g, i * 10 + 9, none⟩ (.int .i64 p.work)).ownsRow base e 10 (.slice (some ⟨g, 0, none⟩) n cap) n ((l.set i p).flatMap peV) ∧
    w.grownBy ((((((((((w.setCell ⟨g, i * 10, none⟩ (.bool p.en.ad.v6)).setCell ⟨g, i * 10 + 1, none⟩ (.int .u64 p.en.ad.hi)).setCell ⟨g, i * 10 + 2, none⟩ (.int .u64 p.en.ad.lo)).setCell ⟨g, i * 10 + 3, none⟩ (.int .i64 p.en.port)).setCell ⟨g, i * 10 + 4, none⟩ (.bool p.came)).setCell ⟨g, i * 10 + 5, none⟩ (.int .i64 p.since)).setCell ⟨g, i * 10 + 6, none⟩ (.int .i64 p.pts)).setCell ⟨g, i * 10 + 7, none⟩ (.int .i64 p.at_)).setCell ⟨g, i * 10 + 8, none⟩ (.int .i64 p.ping)).setCell ⟨g, i * 10 + 9, none⟩ (.int .i64 p.work)) (some g) := by
  rw [pe_set l i p hi]
  obtain ⟨h0, g0⟩ := h.stored (i * 10) (.bool p.en.ad.v6)
  obtain ⟨h1, g1⟩ := h0.stored (i * 10 + 1) (.int .u64 p.en.ad.hi)
  obtain ⟨h2, g2⟩ := h1.stored (i * 10 + 2) (.int .u64 p.en.ad.lo)
  obtain ⟨h3, g3⟩ := h2.stored (i * 10 + 3) (.int .i64 p.en.port)
  obtain ⟨h4, g4⟩ := h3.stored (i * 10 + 4) (.bool p.came)
  obtain ⟨h5, g5⟩ := h4.stored (i * 10 + 5) (.int .i64 p.since)
  obtain ⟨h6, g6⟩ := h5.stored (i * 10 + 6) (.int .i64 p.pts)
  obtain ⟨h7, g7⟩ := h6.stored (i * 10 + 7) (.int .i64 p.at_)
  obtain ⟨h8, g8⟩ := h7.stored (i * 10 + 8) (.int .i64 p.ping)
  obtain ⟨h9, g9⟩ := h8.stored (i * 10 + 9) (.int .i64 p.work)
  exact ⟨h9, (((((((((g0.trans g1).trans g2).trans g3).trans g4).trans g5).trans g6).trans g7).trans g8).trans g9)⟩
theorem own_pe {w : World} {base g n cap : Nat} {e : TypeId} {l : List Pe} (h : w.ownsRow base e 10 (.slice (some ⟨g, 0, none⟩) n cap) n (l.flatMap peV)) {i : Nat} {x : Pe} (hx : l[i]? = some x) : PeIn w g (i * 10) x := by
  have hn : n * 10 = l.length * 10 := by rw [← h.1, pes_len]
  have hi := (List.getElem?_eq_some_iff.1 hx).1
  have c := fun (j : Nat) (u : Value) (hj : j < 10) (hu : (peV x)[j]? = some u) => (h.cellAt (i * 10 + j) (by omega)).trans ((flat_get peV 10 peV_len l i x hx j hj).trans hu)
  exact ⟨c 0 _ (by omega) rfl, c 1 _ (by omega) rfl, c 2 _ (by omega) rfl, c 3 _ (by omega) rfl, c 4 _ (by omega) rfl, c 5 _ (by omega) rfl, c 6 _ (by omega) rfl, c 7 _ (by omega) rfl, c 8 _ (by omega) rfl, c 9 _ (by omega) rfl⟩
theorem own_blk {w : World} {base g n cap : Nat} {e : TypeId} {size : Nat} {xs : List Value} (h : w.ownsRow base e size (.slice (some ⟨g, 0, none⟩) n cap) n xs) : ∃ arr, BlockIs w g arr e := by
  rcases h.2 with ⟨h1, _⟩ | ⟨g', cap', cur, h1, _, hh, _⟩
  · cases h1
  · injection h1 with e1 _ _
    injection e1 with e1
    injection e1 with e1
    subst e1
    exact ⟨cur.toList, by unfold BlockIs; rw [hh]⟩
theorem below_far {w0 w w' : World} {base g : Nat} (h : Below base w0 w) (hg : w.grownBy w' (some g)) (hb : base ≤ g) (hl : g < w.heap.size) : Below base w0 w' :=
  ⟨hg.os.trans h.os, hg.tape.trans h.tape, hg.output.trans h.output, Nat.le_trans h.size hg.size, fun k hk => by
    rw [hg.block k (by omega) (fun e => by injection e with e; omega)]; exact h.block k hk⟩
end Go.Proofs.Ytnplgagaoeckoaa
namespace Go.Proofs.Ytnplgagaoeckoaa
open Go.RowKit Go.Lib Go.Sort

instance : Inhabited Pe := ⟨⟨⟨⟨false, 0, 0⟩, 0⟩, false, 0, 0, 0, 0, 0⟩⟩
def SP (base : Nat) (w0 : World) (blk cap : Nat) (d : Array Pe) (W : World) : Prop := base ≤ blk ∧ W.ownsRow base 50 10 (.slice (some ⟨blk, 0, none⟩) d.size cap) d.size (d.toList.flatMap peV) ∧ Below base w0 W
theorem get_bang {d : Array Pe} {i : Nat} (hi : i < d.size) : d.toList[i]? = some d[i]! := by
  rw [getElem!_pos d i hi, Array.getElem?_toList, Array.getElem?_eq_getElem hi]
section
variable {base blk cap : Nat} {w0 W : World} {d dk : Array Pe}
theorem SP.pe (h : SP base w0 blk cap d W) {i : Nat} (hi : i < d.size) : PeIn W blk (i * 10) d[i]! := own_pe h.2.1 (get_bang hi)
theorem SP.fz (h : SP base w0 blk cap d W) : ∀ o, W.frozen? ⟨blk, o, none⟩ = false := by
  obtain ⟨arr, hA⟩ := own_blk h.2.1; exact hA.frozen
theorem SP.lt (h : SP base w0 blk cap d W) : blk < W.heap.size := (h.2.1.lt blk rfl).2
theorem SP.below (h : SP base w0 blk cap d W) {w' : World} (hb : Below W.heap.size W w') (hz : base ≤ W.heap.size) : SP base w0 blk cap d w' := ⟨h.1, owns_below h.2.1 hb, h.2.2.trans (hb.mono hz)⟩
theorem SP.ext (h : SP base w0 blk cap d W) (x : Grow) : SP base w0 blk cap d (Go.Proofs.Ytnplgagaoeckoaa.ext W x) := h.below (ext_below W x) (Nat.le_trans h.1 (Nat.le_of_lt h.lt))
theorem SP.drew (h : SP base w0 blk cap d W) : SP base w0 blk cap d W.drew := ⟨h.1, World.ownsRow.drew h.2.1, h.2.2.drew⟩
/-- a peer stored: ten cells -/
def setP (w : World) (g i : Nat) (p : Pe) : World :=
  (((((((((w.setCell ⟨g, i * 10, none⟩ (.bool p.en.ad.v6)).setCell ⟨g, i * 10 + 1, none⟩ (.int .u64 p.en.ad.hi)).setCell ⟨g, i * 10 + 2, none⟩ (.int .u64 p.en.ad.lo)).setCell ⟨g, i * 10 + 3, none⟩ (.int .i64 p.en.port)).setCell ⟨g, i * 10 + 4, none⟩ (.bool p.came)).setCell ⟨g, i * 10 + 5, none⟩ (.int .i64 p.since)).setCell ⟨g, i * 10 + 6, none⟩ (.int .i64 p.pts)).setCell ⟨g, i * 10 + 7, none⟩ (.int .i64 p.at_)).setCell ⟨g, i * 10 + 8, none⟩ (.int .i64 p.ping)).setCell ⟨g, i * 10 + 9, none⟩ (.int .i64 p.work)
theorem SP.set (h : SP base w0 blk cap d W) {i : Nat} (hi : i < d.size) (p : Pe) : SP base w0 blk cap (d.setIfInBounds i p) (setP W blk i p) := by
  obtain ⟨h1, h2⟩ := own_setP h.2.1 i p (by simpa using hi)
  refine ⟨h.1, ?_, below_far h.2.2 h2 h.1 h.lt⟩
  rw [Array.size_setIfInBounds, Array.toList_setIfInBounds]
  exact h1
theorem PeIn.range {w : World} {b o : Nat} {p : Pe} (h : PeIn w b o p) : w.rangeAt b o (peV p) := by
  obtain ⟨a0, a1, a2, a3, a4, a5, a6, a7, a8, a9⟩ := h
  intro j v hj
  have hl := (List.getElem?_eq_some_iff.1 hj).1
  rw [peV_len] at hl
  rcases (show j = 0 ∨ j = 1 ∨ j = 2 ∨ j = 3 ∨ j = 4 ∨ j = 5 ∨ j = 6 ∨ j = 7 ∨ j = 8 ∨ j = 9 by omega) with rfl | rfl | rfl | rfl | rfl | rfl | rfl | rfl | rfl | rfl <;> (injection hj with hj; subst hj; assumption)
theorem SP.range (h : SP base w0 blk cap d W) {i : Nat} (hi : i < d.size) : W.rangeAt blk (i * 10) (peV d[i]!) := (h.pe hi).range
theorem SP.there (h : SP base w0 blk cap d W) {i : Nat} (hi : i < d.size) : W.there blk (i * 10) 10 := fun j hj => by
  have hr := h.range hi
  have hl : j < (peV d[i]!).length := by rw [peV_len]; exact hj
  rw [hr j _ (List.getElem?_eq_getElem hl)]
  exact ⟨rfl, h.fz _⟩
end
end Go.Proofs.Ytnplgagaoeckoaa
namespace Go.Proofs.Ytnplgagaoeckoaa
open Go.RowKit Go.Lib

theorem peIn_box {w : World} {B : Nat} {p : Pe} {T : TypeId} (h : BlockIs w B (peV p) T) : PeIn w B 0 p :=
  ⟨h.cell rfl, h.cell rfl, h.cell rfl, h.cell rfl, h.cell rfl, h.cell rfl, h.cell rfl, h.cell rfl, h.cell rfl, h.cell rfl⟩
end Go.Proofs.Ytnplgagaoeckoaa
namespace Go.Proofs.Ytnplgagaoeckoaa
open Go.RowKit

/-- how many may come, the quotas, the secret -/
structure St where
  most : Int
  q : Qu
  s : Nat
def St.fits (t : St) : Prop := (-9223372036854775808 ≤ t.most ∧ t.most ≤ 9223372036854775807) ∧ t.q.fits ∧ t.s < 18446744073709551616
theorem reads_blk {w : World} {B size : Nat} {us : List Value} {T : TypeId} (h : BlockIs w B us T) (hl : us.length = size) (hs : 0 < size) : Reads w (.slice (some ⟨B, 0, none⟩) 1 1) 1 size us :=
  ⟨by omega, by omega, Or.inr ⟨by omega, B, 0, 1, rfl, by omega, h.lt, fun j x hj => by rw [Nat.zero_add]; exact h.cell hj⟩⟩
end Go.Proofs.Ytnplgagaoeckoaa
namespace Go.Proofs.Ytnplgagaoeckoaa
open Go.ChangeShapes Go.WideShapes Go.ChangeAt Go.RowKit Go.Deep

/-- what reads at type t is laid out as f lays out a datum, whose slices are told by the world -/
def OpensW {α : Type} (P : Program) (t : TypeId) (f : α → List Value) (good : World → α → Prop) : Prop :=
  ∀ (H : Type) (enc : TypeId × Value → H) (w : World) (fuel : Nat) (cs : List Value) (x : DataW H × List MemPlace), DataW.trod enc P w 0 (fun _ => true) true fuel t cs = some x → ∃ d, good w d ∧ cs = f d
theorem Opens.w {α : Type} {P : Program} {t : TypeId} {f : α → List Value} {good : α → Prop} (O : Opens P t f good) : OpensW P t f (fun _ => good) :=
  fun H enc w fuel cs x h => O H enc w _ _ _ _ _ _ h
theorem OpensW.map {P : Program} {t : TypeId} {α β : Type} {f : α → List Value} {g : β → List Value} {good : World → α → Prop} {good' : World → β → Prop} (O : OpensW P t f good) (h : ∀ w d, good w d → ∃ d', good' w d' ∧ f d = g d') : OpensW P t g good' := by
  intro H enc w fuel cs x hx
  obtain ⟨d, h1, h2⟩ := O H enc w _ _ _ hx
  obtain ⟨d', h3, h4⟩ := h w d h1
  exact ⟨d', h3, by rw [h2, h4]⟩
theorem opensW_slice {P : Program} {t e : TypeId} {α : Type} {f : α → List Value} {good : World → α → Prop} {n : Nat} (O : OpensW P e f good) (hf : ∀ x, (f x).length = n) (hn : 0 < n) (ht : P.underlying t = some (.slice e)) (hc : P.cellsOf e = n) :
    OpensW P t (fun p : Value × List α => [p.1]) (fun w p => ReadsL f n w p.1 p.2 ∧ ∀ x ∈ p.2, good w x) := by
  intro H enc W fuel cs x hft
  rcases open_slice ht hft with ⟨hcs, _⟩ | ⟨a', len', cap', m, k, D, Pl, hcs, _, hl, hm, hmm, _, hi⟩
  · subst hcs
    exact ⟨(.slice none 0 0, []), ⟨ReadsL.nil f n W none 0, fun x hx => by simp at hx⟩, rfl⟩
  · subst hcs
    simp only [if_true] at hmm
    obtain ⟨l, h1, h2⟩ := all_list (Q := fun i x => good W x ∧ ∀ j u, (f x)[j]? = some u → W.cell? ((a'.add (i * n)).add j) = some u) len' (fun i hi' => by
      obtain ⟨cs', hcells, htr⟩ := hi i (by omega)
      obtain ⟨x, hg, hx⟩ := O H enc W _ _ _ htr
      obtain ⟨_, hcl, hat⟩ := World.cells?_some hcells
      rw [hc] at hcl hat
      refine ⟨x, hg, fun j u hj => ?_⟩
      have hjn : j < n := by have := (List.getElem?_eq_some_iff.1 hj).1; rw [hf] at this; exact this
      rw [hat j hjn, hx]; exact hj)
    refine ⟨(.slice (some a') len' cap', l), ⟨?_, fun x hx => by
      obtain ⟨i, hi'⟩ := List.mem_iff_getElem?.1 hx
      exact (h2 i x hi').1⟩, rfl⟩
    unfold ReadsL
    simp only
    rw [h1]
    refine ⟨by rw [flat_len f n hf, h1], by unfold maxLen at hm; omega, ?_⟩
    by_cases h0 : len' = 0
    · exact Or.inl ⟨h0, some a', cap', by rw [h0]⟩
    · have hlen : 0 < l.length := by omega
      obtain ⟨x0, hx0⟩ : ∃ x, l[0]? = some x := ⟨_, List.getElem?_eq_getElem hlen⟩
      obtain ⟨u0, hu0⟩ : ∃ u, (f x0)[0]? = some u := ⟨_, List.getElem?_eq_getElem (by rw [hf]; exact hn)⟩
      have hc0 := (h2 0 x0 hx0).2 0 u0 hu0
      have e0 : a'.add (0 * n) = a' := by rw [Nat.zero_mul]; unfold Addr.add; rw [if_pos rfl]
      rw [e0] at hc0
      have hsp := addr_spot hc0
      obtain ⟨b, o, sp⟩ := a'
      simp only at hsp; subst hsp
      refine Or.inr ⟨by omega, b, o, cap', rfl, hl, ?_, ?_⟩
      · have := block_lt_of_cell hc0
        rw [addr_add0] at this; exact this
      · intro j u hj
        have hjl := (List.getElem?_eq_some_iff.1 hj).1
        rw [flat_len f n hf] at hjl
        have hdm : j = (j / n) * n + j % n := by have := Nat.div_add_mod j n; rw [Nat.mul_comm] at this; omega
        have hq : j / n < l.length := (Nat.div_lt_iff_lt_mul hn).2 hjl
        have hr : j % n < n := Nat.mod_lt _ hn
        have hget := List.getElem?_eq_getElem hq
        rw [hdm, flat_get f n hf l (j / n) _ hget _ hr] at hj
        have := (h2 (j / n) _ hget).2 (j % n) u hj
        rw [addr_add0, addr_add0, Nat.add_assoc, ← hdm] at this
        exact this
/-- the fields of a struct, from some offset on -/
def OpensWF {α : Type} (P : Program) (fs : List Field) (off m : Nat) (f : α → List Value) (good : World → α → Prop) : Prop :=
  ∀ (H : Type) (enc : TypeId × Value → H) (w : World) (fuel : Nat) (cs : List Value),
    (∀ (i : Nat) (fd : Field), fs[i]? = some fd → ∃ y, DataW.trod enc P w 0 (fun _ => true) true fuel fd.type ((cs.drop fd.offset).take (P.cellsOf fd.type)) = some y) → ∃ d, good w d ∧ (cs.drop off).take m = f d
theorem opensWF_nil {P : Program} {off : Nat} : OpensWF P [] off 0 (fun _ : Unit => []) (fun _ _ => True) := by
  intro H enc w fuel cs _; exact ⟨(), trivial, by simp⟩
theorem opensWF_cons {P : Program} {fd : Field} {fs : List Field} {off n m : Nat} {α β : Type} {g : α → List Value} {f : β → List Value} {good1 : World → α → Prop} {good2 : World → β → Prop} (O : OpensW P fd.type g good1) (hn : P.cellsOf fd.type = n) (ho : fd.offset = off) (R : OpensWF P fs (off + n) m f good2) :
    OpensWF P (fd :: fs) off (n + m) (fun p : α × β => g p.1 ++ f p.2) (fun w p => good1 w p.1 ∧ good2 w p.2) := by
  intro H enc w fuel cs h
  obtain ⟨y, hy⟩ := h 0 fd rfl
  obtain ⟨a, h1, h2⟩ := O H enc w _ _ _ hy
  obtain ⟨b, h3, h4⟩ := R H enc w fuel cs (fun i fd' hi => h (i + 1) fd' (by simpa using hi))
  refine ⟨(a, b), ⟨h1, h3⟩, ?_⟩
  rw [ho, hn] at h2
  rw [List.take_add, h2, List.drop_drop, h4]
theorem opensW_of_fields {P : Program} {t : TypeId} {fs : Array Field} {m : Nat} {α : Type} {f : α → List Value} {good : World → α → Prop} (ht : P.underlying t = some (.struct fs)) (R : OpensWF P fs.toList 0 m f good) (hc : P.cellsOf t = m) : OpensW P t f good := by
  intro H enc w fuel cs x h
  obtain ⟨xs, n, _, _, hlen, hxl, hf⟩ := DataW.trod_struct ht h
  obtain ⟨d, h1, h2⟩ := R H enc w n cs (fun i fd hi => by
    have hi' : fs[i]? = some fd := by rw [← Array.getElem?_toList]; exact hi
    have := (Array.getElem?_eq_some_iff.1 hi').1
    exact ⟨_, (hf i fd hi').trans (List.getElem?_eq_getElem (l := xs) (i := i) (by rw [hxl]; exact this))⟩)
  refine ⟨d, h1, ?_⟩
  rw [List.drop_zero, List.take_of_length_le (by rw [hlen, hc]; exact Nat.le_refl _)] at h2
  exact h2
section
variable {H : Type} {enc : TypeId × Value → H} {P : Program} {W : World}
/-- a slice of things that may hold slices -/
theorem open_listW {r : Reach} {base : Nat} {t e : TypeId} {v : Value} {d : DataW H} {ps : List MemPlace} {α : Type} {f : α → List Value} {good : World → α → Prop} {n : Nat} (O : OpensW P e f good) (hf : ∀ x, (f x).length = n) (hn : 0 < n) (ht : P.underlying t = some (.slice e)) (hc : P.cellsOf e = n)
    (hval : Value.okWide P W r base t v) (h : DataW.Trod enc P W 0 (fun _ => true) true t v d ps) : ∃ l : List α, ReadsL f n W v l ∧ ∀ x ∈ l, good W x := by
  obtain ⟨a, len, cap, rfl⟩ := okWide_slice ht hval
  obtain ⟨fuel, hft⟩ := h
  obtain ⟨⟨v, l⟩, h1, h2⟩ := opensW_slice O hf hn ht hc H enc W _ _ _ hft
  simp [Value.cells] at h2
  rw [h2]; exact ⟨l, h1⟩
end
end Go.Proofs.Ytnplgagaoeckoaa
namespace Go.Proofs.Ytnplgagaoeckoaa
open Go.ChangeShapes Go.WideShapes Go.ChangeAt Go.RowKit Go.Deep
def ntV (e : Nt) : List Value := [.bool e.ad.v6, .int .u64 e.ad.hi, .int .u64 e.ad.lo, .int .i64 e.bits]
def Nt.fits (e : Nt) : Prop := e.ad.fits ∧ -9223372036854775808 ≤ e.bits ∧ e.bits ≤ 9223372036854775807
theorem opens_net : Opens Try.prog 72 ntV Nt.fits :=
  (opens_of_fields Try.underlying72 (opensF_cons (n := 3) opens_addr (by kernel_rfl) rfl (opensF_cons (n := 1) (opens_i64 Try.underlying3) (by kernel_rfl) rfl opensF_nil)) (by kernel_rfl)).map
    fun ⟨a, b, _⟩ ⟨h1, h2, _⟩ => ⟨⟨a, b⟩, ⟨h1, h2⟩, rfl⟩
end Go.Proofs.Ytnplgagaoeckoaa
namespace Go.Proofs.Ytnplgagaoeckoaa
open Go.ChangeShapes Go.WideShapes Go.ChangeAt Go.RowKit Go.Deep
def baV (b : Ba) : List Value := [.bool b.nt.ad.v6, .int .u64 b.nt.ad.hi, .int .u64 b.nt.ad.lo, .int .i64 b.nt.bits, .int .i64 b.till]
theorem baV_len (b : Ba) : (baV b).length = 5 := rfl
def Ba.fits (b : Ba) : Prop := b.nt.fits ∧ -9223372036854775808 ≤ b.till ∧ b.till ≤ 9223372036854775807
theorem opens_ban : Opens Try.prog 74 baV Ba.fits :=
  (opens_of_fields Try.underlying74 (opensF_cons (n := 4) opens_net (by kernel_rfl) rfl (opensF_cons (n := 1) (opens_i64 Try.underlying3) (by kernel_rfl) rfl opensF_nil)) (by kernel_rfl)).map
    fun ⟨a, b, _⟩ ⟨h1, h2, _⟩ => ⟨⟨a, b⟩, ⟨h1, h2⟩, rfl⟩
end Go.Proofs.Ytnplgagaoeckoaa
namespace Go.Proofs.Ytnplgagaoeckoaa
open Go.RowKit

def eyV (e : Ey) : List Value := [.bool e.en.ad.v6, .int .u64 e.en.ad.hi, .int .u64 e.en.ad.lo, .int .i64 e.en.port, .int .i64 e.state, .int .i64 e.fails, .int .i64 e.next]
theorem eyV_len (e : Ey) : (eyV e).length = 7 := rfl
/-- five cells of a ban in a row -/
def baIn (w : World) (b o : Nat) (x : Ba) : Prop := w.cell? ⟨b, o, none⟩ = some (.bool x.nt.ad.v6) ∧ w.cell? ⟨b, o + 1, none⟩ = some (.int .u64 x.nt.ad.hi) ∧ w.cell? ⟨b, o + 2, none⟩ = some (.int .u64 x.nt.ad.lo) ∧ w.cell? ⟨b, o + 3, none⟩ = some (.int .i64 x.nt.bits) ∧ w.cell? ⟨b, o + 4, none⟩ = some (.int .i64 x.till)
theorem ba_open {w : World} {v : Value} {l : List Ba} (h : ReadsL baV 5 w v l) : l.length ≤ 9223372036854775807 ∧ ∃ (a : Option Addr) (c : Nat), v = .slice a l.length c ∧ (0 < l.length → ∃ b o, a = some ⟨b, o, none⟩ ∧ l.length ≤ c ∧ b < w.heap.size ∧
      ∀ (i : Nat) (p : Ba), l[i]? = some p → baIn w b (o + i * 5) p) := by
  obtain ⟨h1, a, c, h2, h3⟩ := h.open baV_len (by omega)
  refine ⟨h1, a, c, h2, fun hp => ?_⟩
  obtain ⟨b, o, h4, h5, h6, h7⟩ := h3 hp
  refine ⟨b, o, h4, h5, h6, fun i x hi => ⟨?_, ?_, ?_, ?_, ?_⟩⟩
  · have := h7 i x hi 0 _ rfl; simpa [Nat.add_assoc] using this
  · have := h7 i x hi 1 _ rfl; simpa [Nat.add_assoc] using this
  · have := h7 i x hi 2 _ rfl; simpa [Nat.add_assoc] using this
  · have := h7 i x hi 3 _ rfl; simpa [Nat.add_assoc] using this
  · have := h7 i x hi 4 _ rfl; simpa [Nat.add_assoc] using this
theorem baIn.below {B : Nat} {w w' : World} {b o : Nat} {p : Ba} (h : baIn w b o p) (hb : Below B w w') (hlt : b < B) : baIn w' b o p := by
  obtain ⟨a0, a1, a2, a3, a4⟩ := h
  exact ⟨keep hb hlt a0, keep hb hlt a1, keep hb hlt a2, keep hb hlt a3, keep hb hlt a4⟩
/-- seven cells of an entry in a row -/
def eyIn (w : World) (b o : Nat) (x : Ey) : Prop := w.cell? ⟨b, o, none⟩ = some (.bool x.en.ad.v6) ∧ w.cell? ⟨b, o + 1, none⟩ = some (.int .u64 x.en.ad.hi) ∧ w.cell? ⟨b, o + 2, none⟩ = some (.int .u64 x.en.ad.lo) ∧ w.cell? ⟨b, o + 3, none⟩ = some (.int .i64 x.en.port) ∧ w.cell? ⟨b, o + 4, none⟩ = some (.int .i64 x.state) ∧ w.cell? ⟨b, o + 5, none⟩ = some (.int .i64 x.fails) ∧ w.cell? ⟨b, o + 6, none⟩ = some (.int .i64 x.next)
theorem ey_open {w : World} {v : Value} {l : List Ey} (h : ReadsL eyV 7 w v l) : l.length ≤ 9223372036854775807 ∧ ∃ (a : Option Addr) (c : Nat), v = .slice a l.length c ∧ (0 < l.length → ∃ b o, a = some ⟨b, o, none⟩ ∧ l.length ≤ c ∧ b < w.heap.size ∧
      ∀ (i : Nat) (p : Ey), l[i]? = some p → eyIn w b (o + i * 7) p) := by
  obtain ⟨h1, a, c, h2, h3⟩ := h.open eyV_len (by omega)
  refine ⟨h1, a, c, h2, fun hp => ?_⟩
  obtain ⟨b, o, h4, h5, h6, h7⟩ := h3 hp
  refine ⟨b, o, h4, h5, h6, fun i x hi => ⟨?_, ?_, ?_, ?_, ?_, ?_, ?_⟩⟩
  · have := h7 i x hi 0 _ rfl; simpa [Nat.add_assoc] using this
  · have := h7 i x hi 1 _ rfl; simpa [Nat.add_assoc] using this
  · have := h7 i x hi 2 _ rfl; simpa [Nat.add_assoc] using this
  · have := h7 i x hi 3 _ rfl; simpa [Nat.add_assoc] using this
  · have := h7 i x hi 4 _ rfl; simpa [Nat.add_assoc] using this
  · have := h7 i x hi 5 _ rfl; simpa [Nat.add_assoc] using this
  · have := h7 i x hi 6 _ rfl; simpa [Nat.add_assoc] using this
theorem eyIn.below {B : Nat} {w w' : World} {b o : Nat} {p : Ey} (h : eyIn w b o p) (hb : Below B w w') (hlt : b < B) : eyIn w' b o p := by
  obtain ⟨a0, a1, a2, a3, a4, a5, a6⟩ := h
  exact ⟨keep hb hlt a0, keep hb hlt a1, keep hb hlt a2, keep hb hlt a3, keep hb hlt a4, keep hb hlt a5, keep hb hlt a6⟩
end Go.Proofs.Ytnplgagaoeckoaa
namespace Go.Proofs.Ytnplgagaoeckoaa
open Go.RowKit

/-- what holds of a world and of every world that has grown from it -/
def Grows (K : World → Prop) : Prop := ∀ W W', K W → Below W.heap.size W W' → K W'
/-- P holds wherever w0 holds and w's blocks from B on still lie -/
def Firm (w0 : World → Prop) (B : Nat) (w : World) (P : World → Prop) : Prop := ∀ W, w0 W → (∀ b arr T, B ≤ b → BlockIs w b arr T → BlockIs W b arr T) → P W
theorem Firm.now {w0 : World → Prop} {w : World} {B : Nat} {P : World → Prop} (h : Firm w0 B w P) (hb : w0 w) : P w := h w hb fun _ _ _ _ h => h
theorem Firm.step {w0 : World → Prop} {w w' : World} {B : Nat} {P : World → Prop} (h : Firm w0 B w P) (hb : Below w.heap.size w w') : Firm w0 B w' P := fun W h0 hk => h W h0 fun b arr T h1 h2 => hk b arr T h1 (h2.below hb)
theorem Firm.keep {w0 : World → Prop} {w w' : World} {B : Nat} {P : World → Prop} (h : Firm w0 B w P) (hb : ∀ b arr T, B ≤ b → BlockIs w b arr T → BlockIs w' b arr T) : Firm w0 B w' P := fun W h0 hk => h W h0 fun b arr T h1 h2 => hk b arr T h1 (hb b arr T h1 h2)
theorem Firm.old {w0 : World → Prop} {w : World} {B : Nat} {P : World → Prop} (h : ∀ W, w0 W → P W) : Firm w0 B w P := fun W h0 _ => h W h0
theorem Firm.from {w0 : World → Prop} {w : World} {B B' : Nat} {P : World → Prop} (h : Firm w0 B' w P) (hB : B ≤ B') : Firm w0 B w P := fun W h0 hk => h W h0 fun b arr T h1 h2 => hk b arr T (Nat.le_trans hB h1) h2
theorem Firm.map {w0 : World → Prop} {w : World} {B : Nat} {P Q : World → Prop} (h : Firm w0 B w P) (hq : ∀ W, P W → Q W) : Firm w0 B w Q := fun W h0 hk => hq W (h W h0 hk)
/-- a row that lies in a block of its own, in a world that holds that block still -/
theorem owns_held {w w' : World} {base n size : Nat} {e : TypeId} {v : Value} {xs : List Value} (h : w.ownsRow base e size v n xs) (hk : ∀ g arr, base ≤ g → BlockIs w g arr e → BlockIs w' g arr e) : w'.ownsRow base e size v n xs := by
  refine ⟨h.1, ?_⟩
  rcases h.2 with h2 | ⟨g, cap, cur, rfl, hg, hh, r⟩
  · exact Or.inl h2
  · exact Or.inr ⟨g, cap, cur, rfl, hg, hk g _ hg hh, r⟩
theorem Firm.own {w0 : World → Prop} {w : World} {B base n size : Nat} {e : TypeId} {v : Value} {xs : List Value} (h : w.ownsRow base e size v n xs) (hB : B ≤ base) : Firm w0 B w fun W => W.ownsRow base e size v n xs := fun W _ hk => owns_held h fun g arr hg hb => hk g arr e (Nat.le_trans hB hg) hb
end Go.Proofs.Ytnplgagaoeckoaa
namespace Go.Proofs.Ytnplgagaoeckoaa
open Go.RowKit

section
variable {P : Program} {ops : Array Oper} {md : Region.Mode} {S : World → Prop} {Q : Exit → Act → World → Prop}

def headH (P : Program) (md : Region.Mode) (ops : Array Oper) (Q : Exit → Act → World → Prop) (S : World → Prop) (n : Nat) (L : Array Bool → Act → World → Prop) : Nat → Array Bool → Act → World → Prop
  | 0, listed, a, w => L listed a w
  | f + 1, listed, a, w =>
    Region.ready md ops listed ≠ [] ∧ ∀ i ∈ Region.ready md ops listed, i < n ∧ wpOp P ops Q i (fun a' w' => S w' ∧ headH P md ops Q S n L f (listed.setIfInBounds i true) a' w') a w

theorem any_of_headH {n g : Nat} {L : Array Bool → Act → World → Prop} (hL : ∀ listed a w, L listed a w → wpAny P md ops Q g listed a w) :
    ∀ (f : Nat) (listed : Array Bool) (a : Act) (w : World), headH P md ops Q S n L f listed a w → wpAny P md ops Q (f + g) listed a w
  | 0, listed, a, w, h => by rw [Nat.zero_add]; exact hL _ _ _ h
  | f + 1, listed, a, w, h => by
    rw [show f + 1 + g = (f + g) + 1 by omega]
    exact ⟨fun h0 => absurd h0 h.1, fun i hi => wpOp_mono (fun a' w' h' => any_of_headH hL f _ a' w' h'.2) (h.2 i hi).2⟩

theorem headH_first {n i : Nat} {oi : Oper} {v : Value} {L : Array Bool → Act → World → Prop} (hi : ops[i]? = some oi) (hsel : ∀ (j : Nat) (o : Oper) cs b, ops[j]? = some o → o.op ≠ .select cs b)
    (hQ : ∀ c a w, Q (.panic c) (a.put oi.dst v) w → Q (.panic c) a w)
    (hs : Region.sinkB md ops n = true) (hc : Region.chainB md ops n = true) (hn : n < ops.size) (hin : i < n)
    (hdone : ∀ listed a w, L listed a w → ∀ j ∈ Region.ready md ops listed, n ≤ j) :
    ∀ (f : Nat) (listed : Array Bool) (a : Act) (w : World), HeadInv md ops n listed →
      (∀ j oj, ops[j]? = some oj → j ≠ i → listed.getD j true = false → (∀ e ∈ oj.after, Region.binds md e = true → e.on ≠ i) → oi.apart ops oj = true) →
      i ∈ Region.ready md ops listed → YieldsIf P ops S oi v a → S w →
      headH P md ops Q S n L f (listed.setIfInBounds i true) (a.put oi.dst v) w → headH P md ops Q S n L (f + 1) listed a w := by
  intro f
  induction f with
  | zero =>
    intro listed a w inv _ hr hy hS H
    have hun := (mem_ready.1 hr).1
    refine ⟨fun h => (by rw [h] at hr; cases hr), fun j hj => ?_⟩
    have hjn : j < n := by
      rcases Nat.lt_or_ge j n with h | h
      · exact h
      · exact absurd hj (tail_waits hs hc hn inv _ i rfl hin hun j h)
    refine ⟨hjn, ?_⟩
    by_cases hji : j = i
    · subst hji; exact hy.wpOp hi hS ⟨hS, H⟩
    · have := hdone _ _ _ H j (ready_mono hj hji)
      omega
  | succ f ih =>
    intro listed a w inv hfree hr hy hS H
    have hun := (mem_ready.1 hr).1
    refine ⟨fun h => (by rw [h] at hr; cases hr), fun j hj => ?_⟩
    have hjn : j < n := by
      rcases Nat.lt_or_ge j n with h | h
      · exact h
      · exact absurd hj (tail_waits hs hc hn inv _ i rfl hin hun j h)
    refine ⟨hjn, ?_⟩
    by_cases hji : j = i
    · subst hji; exact hy.wpOp hi hS ⟨hS, H⟩
    · have h1 := (H.2 j (ready_mono hj hji)).2
      obtain ⟨hjun, oj, hoj, hall⟩ := mem_ready.1 hj
      have hnot : ∀ e ∈ oj.after, Region.binds md e = true → e.on ≠ i := fun e he hb heq => by
        have h1 := hall e he hb
        rw [heq, getD_both hun] at h1
        cases h1
      have h2 := wpOp_putIf hoj (hfree j oj hoj hji hjun hnot) (fun cs b => hsel i oi cs b hi) (fun cs b => hsel j oj cs b hoj) hQ hy h1
      have hfree' : ∀ k ok, ops[k]? = some ok → k ≠ i → (listed.setIfInBounds j true).getD k true = false →
          (∀ e ∈ ok.after, Region.binds md e = true → e.on ≠ i) → oi.apart ops ok = true := fun k ok hk hki hun hno => by
        refine hfree k ok hk hki ?_ hno
        by_cases hjk : j = k
        · subst hjk; exact hjun
        · rw [getD_set_ne true hjk] at hun; exact hun
      refine wpOp_mono (fun a' w' h3 => ⟨h3.2.1, ih (listed.setIfInBounds j true) a' w' (inv.set hj hjn) hfree' (ready_mono hr (Ne.symm hji)) h3.1 h3.2.1 ?_⟩) h2
      rw [Array.setIfInBounds_comm _ _ hji]
      exact h3.2.2

/-- the invariant of the head, as a test -/
def headInvB (md : Region.Mode) (ops : Array Oper) (n : Nat) (listed : Array Bool) : Bool :=
  decide (listed.size = ops.size) && ((List.range ops.size).all fun j => !listed.getD j false || match ops[j]? with
    | some oj => oj.after.all fun e => !Region.binds md e || listed.getD e.on false
    | none => true) && (List.range ops.size).all fun t => decide (t < n) || !listed.getD t true
theorem headInvB_spec {n : Nat} {listed : Array Bool} (h : headInvB md ops n listed = true) : HeadInv md ops n listed := by
  unfold headInvB at h
  simp only [Bool.and_eq_true, decide_eq_true_eq, List.all_eq_true, List.mem_range, Bool.or_eq_true, Bool.not_eq_true'] at h
  obtain ⟨⟨h1, h2⟩, h3⟩ := h
  refine ⟨h1, fun j oj hj hl e he hb => ?_, fun t ht ht' => ?_⟩
  · rcases h2 j (Array.getElem?_eq_some_iff.1 hj).1 with h | h
    · rw [hl] at h; cases h
    · simp only [hj] at h
      have := Array.all_eq_true_iff_forall_mem.1 h e he
      simp only [Bool.or_eq_true, Bool.not_eq_true', hb] at this
      rcases this with h | h
      · cases h
      · exact h
  · rcases h3 t ht' with h | h
    · omega
    · exact h
/-- what the region must be: once a region -/
def headB (md : Region.Mode) (ops : Array Oper) (n : Nat) : Bool := Region.noSelect ops && decide (n < ops.size) && Region.sinkB md ops n && Region.chainB md ops n
def headLt (P : Program) (ops : Array Oper) (Q : Exit → Act → World → Prop) (g n : Nat) (l : List Oper) (listed : Array Bool) (a : Act) (w : World) : Prop := Region.seqB .any ops g n listed = true ∧ wpList P ops Q l a w
theorem headH_take {n g i : Nat} {oi : Oper} {v : Value} {l : List Oper} {f : Nat} {listed : Array Bool} {a : Act} {w : World} (hB : headB .any ops n = true) (hi : ops[i]? = some oi)
    (hin : Nat.blt i n = true) (hf : Region.free .any ops listed i = true) (hr : (Region.ready .any ops listed).contains i = true) (hv : headInvB .any ops n listed = true)
    (hQ : ∀ c a w, Q (.panic c) (a.put oi.dst v) w → Q (.panic c) a w) (hy : YieldsIf P ops S oi v a) (hS : S w)
    (h : headH P .any ops Q S n (headLt P ops Q g n l) f (listed.setIfInBounds i true) (a.put oi.dst v) w) : headH P .any ops Q S n (headLt P ops Q g n l) (f + 1) listed a w := by
  unfold headB at hB
  simp only [Bool.and_eq_true, decide_eq_true_eq] at hB
  obtain ⟨⟨⟨hsel, hn⟩, hs⟩, hc⟩ := hB
  exact headH_first hi (Region.noSelect_spec hsel) hQ hs hc hn (Eq.mp Nat.blt_eq hin) (fun listed' a' w' hL => seqB_ready hL.1) f listed a w (headInvB_spec hv) (Region.free_spec hi hf) (by simpa using hr) hy hS h
theorem headH_one {n i : Nat} {o : Oper} {L : Array Bool → Act → World → Prop} {f : Nat} {listed : Array Bool} {a : Act} {w : World} (hi : ops[i]? = some o) (hin : Nat.blt i n = true) (hr : Region.ready md ops listed = [i])
    (h : ∀ K' : Act → World → Prop, Hid (∀ a w, S w → (S w → headH P md ops Q S n L f (listed.setIfInBounds i true) a w) → K' a w) → if Region.wanted o (yielded ops a.tmps) = true then Oper.wp P o a w K' Q else K' (a.put o.dst undef) w) :
    headH P md ops Q S n L (f + 1) listed a w := by
  refine ⟨by rw [hr]; simp, fun j hj => ?_⟩
  rw [hr] at hj
  obtain rfl : j = i := by simpa using hj
  exact ⟨Eq.mp Nat.blt_eq hin, wpOp_step hi fun K' hK => h K' fun a w hS hW => hK a w ⟨hS, hW hS⟩⟩
theorem headH_two {n i j : Nat} {o p : Oper} {L : Array Bool → Act → World → Prop} {f : Nat} {listed : Array Bool} {a : Act} {w : World} (hi : ops[i]? = some o) (hj : ops[j]? = some p) (hin : Nat.blt i n = true) (hjn : Nat.blt j n = true) (hr : Region.ready md ops listed = [i, j])
    (h : ∀ K' : Act → World → Prop, Hid (∀ a w, S w → (S w → headH P md ops Q S n L f (listed.setIfInBounds i true) a w) → K' a w) → if Region.wanted o (yielded ops a.tmps) = true then Oper.wp P o a w K' Q else K' (a.put o.dst undef) w)
    (h' : ∀ K' : Act → World → Prop, Hid (∀ a w, S w → (S w → headH P md ops Q S n L f (listed.setIfInBounds j true) a w) → K' a w) → if Region.wanted p (yielded ops a.tmps) = true then Oper.wp P p a w K' Q else K' (a.put p.dst undef) w) :
    headH P md ops Q S n L (f + 1) listed a w := by
  refine ⟨by rw [hr]; simp, fun k hk => ?_⟩
  rw [hr] at hk
  rcases List.mem_cons.1 hk with rfl | hk
  · exact ⟨Eq.mp Nat.blt_eq hin, wpOp_step hi fun K' hK => h K' fun a w hS hW => hK a w ⟨hS, hW hS⟩⟩
  · obtain rfl : k = j := by simpa using hk
    exact ⟨Eq.mp Nat.blt_eq hjn, wpOp_step hj fun K' hK => h' K' fun a w hS hW => hK a w ⟨hS, hW hS⟩⟩
theorem named_world {K : Act → World → Prop} {a : Act} {w : World} (h : ∀ W, W = w → K a W) : K a w := h w rfl
theorem headH_done {n g : Nat} {l : List Oper} {listed : Array Bool} {a : Act} {w : World} (hq : Region.seqB .any ops g n listed = true) (h : wpList P ops Q l a w) : headH P .any ops Q S n (headLt P ops Q g n l) 0 listed a w := ⟨hq, h⟩
theorem wp_region_headH {id : Nat} {a : Act} {w : World} {l : List Oper} (S : World → Prop) (n : Nat) (hm : P.follows .mixedOrders = true) (hB : headB .any l.toArray n = true)
    (h : headH P .any l.toArray Q S n (headLt P l.toArray Q (l.length - n) n (l.drop n)) n (Array.replicate l.length false) a w.drew) : (Code.region id l.toArray true).wp P Q a w := by
  unfold headB at hB
  simp only [Bool.and_eq_true, decide_eq_true_eq] at hB
  obtain ⟨⟨⟨hsel, hn⟩, hs⟩, hc⟩ := hB
  have hn' : n < l.length := by simpa using hn
  have hdl : (l.drop n).length = l.length - n := by simp
  refine wp_region_any hm ?_
  have := any_of_headH (Q := Q) (g := l.length - n) (fun listed a' w' hL => by
    have := wpAny_of_seq (md := .any) (Q' := Q) (l.drop n) n listed a' w' (fun j => by simp [List.getElem?_drop]) (by rw [hdl]; exact hL.1) hL.2
    rwa [hdl] at this) _ _ _ _ h
  rw [show n + (l.length - n) = l.toArray.size by simp; omega] at this
  exact this
end
end Go.Proofs.Ytnplgagaoeckoaa
