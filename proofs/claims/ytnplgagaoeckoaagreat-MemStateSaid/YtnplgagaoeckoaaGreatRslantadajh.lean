/- Texts put together: Ins, Tab, TabB, TabC, TabH, TabJ, TabM, TabN. No condition. -/
import Derived.Test.YtnplgagaoeckoaaGreatRucwvsyuqtv
import Derived.Test.YtnplgagaoeckoaaGreatRypywmygvkt
import Derived.Test.YtnplgagaoeckoaaGreatRrgnxqgbryl
import Derived.Test.YtnplgagaoeckoaaGreatRmmudejbcaa
import Derived.Lib.Overlaps
import Derived.Test.YtnplgagaoeckoaaGreatRzqhmawytif
import Derived.Test.YtnplgagaoeckoaaGreatRdjrjszgzsy
import Derived.Test.YtnplgagaoeckoaaGreatRixznyryfjf
import Derived.Test.YtnplgagaoeckoaaGreatRrwpejfwmem
import Derived.Deep.RegionHeld3
import Derived.Handy
import Derived.Test.YtnplgagaoeckoaaGreatRwziyrduvnt
import Derived.WalkKit
import Derived.WalkSpells
import Derived.WalkLawsBesides
namespace Go.Proofs.YtnplgagaoeckoaaGreat
open Go.RowKit

def insL (l : List Pe) (i : Nat) (p : Pe) : List Pe := l.take i ++ p :: l.drop i
end Go.Proofs.YtnplgagaoeckoaaGreat
namespace Go.Proofs.YtnplgagaoeckoaaGreat
open Go.RowKit Go.Lib Go.Sort

set_option maxRecDepth 100000 in
set_option maxHeartbeats 4000000 in
theorem order_any (a b : Pe) (w : World) : Calls Tryz.prog 101 #[.agg #[.bool a.en.ad.v6, .int .u64 a.en.ad.hi, .int .u64 a.en.ad.lo, .int .i64 a.en.port, .bool a.came, .int .i64 a.since, .int .i64 a.pts, .int .i64 a.at_, .int .i64 a.ping, .int .i64 a.work], .agg #[.bool b.en.ad.v6, .int .u64 b.en.ad.hi, .int .u64 b.en.ad.lo, .int .i64 b.en.port, .bool b.came, .int .i64 b.since, .int .i64 b.pts, .int .i64 b.at_, .int .i64 b.ping, .int .i64 b.work]] w fun e w' => e = .returned (.int .i64 (enCmp a.en b.en)) ∧ Below w.heap.size w w' := by
  have HC := Lib.hid (fun w => enCmp_any a.en b.en w)
  generalize enCmp a.en b.en = y at *
  go_enter Tryz.func101, Tryz.ntmps101
  go_wp2_with (go_at_call 115; (with_reducible refine (HC.out _).mono ?_); rintro e w1 ⟨rfl, b1⟩)
  go_ret
  refine ⟨rfl, ?_⟩
  exact bel
theorem order_cmp : CmpP Tryz.prog 101 #[] (fun a b => enCmp a.en b.en) := fun W x y => order_any x y W
/-- what the sort leaves -/
def srtL (l : List Pe) : List Pe := (stableA (ltOf fun a b : Pe => enCmp a.en b.en) l.toArray).toList
set_option maxRecDepth 100000 in
set_option maxHeartbeats 4000000 in
theorem sorted_any (v : Value) (l : List Pe) (w : World) (h : ReadsL peV 10 w v l) (hl : l.length ≤ 1000000) (hz : (srtL l).length = l.length) (hn : l ≠ []) :
    Calls Tryz.prog 79 #[v] w fun e w' => ∃ r, e = .returned r ∧ w'.ownsRow w.heap.size 52 10 r l.length ((srtL l).flatMap peV) ∧ Below w.heap.size w w' := by
  have HCl := Lib.hid (clonePe v l w h hl)
  have HS : Hid (∀ (g c : Nat) (W : World), W.ownsRow w.heap.size 52 10 (.slice (some ⟨g, 0, none⟩) l.length c) l.length (l.flatMap peV) → Below w.heap.size w W →
      Calls Tryz.prog 100 #[.slice (some ⟨g, 0, none⟩) l.length c, .func (.func 101) #[] #[]] W fun e w' => e = .returned (.tuple #[]) ∧ w'.ownsRow w.heap.size 52 10 (.slice (some ⟨g, 0, none⟩) l.length c) l.length ((srtL l).flatMap peV) ∧ Below w.heap.size w w') := fun g c W ho hb => by
    have hbg := (owns_blk2 ho).1
    have := sortStable_p (fun a b => enCmp a.en b.en) 101 #[] w.heap.size g c l.toArray w W (enters_of Tryz.func101 (by kernel_rfl) rfl) order_cmp ⟨hbg, by simpa using ho, hb⟩ (by simp; omega)
    rw [List.size_toArray] at this
    refine this.mono ?_
    rintro e w' ⟨rfl, _, o, b⟩
    have hz' : (stableA (ltOf fun a b : Pe => enCmp a.en b.en) l.toArray).size = l.length := by rw [← Array.length_toList]; exact hz
    rw [hz'] at o
    exact ⟨rfl, o, b⟩
  have HN := Lib.hid hn
  clear h hn hz
  go_enter Tryz.func79, Tryz.ntmps79
  go_wp2_with (first
    | (go_at_call 99; (with_reducible refine HCl.out.mono ?_); rintro e w1 ⟨r1, rfl, o1, b1, k1⟩; obtain ⟨g, c, rfl⟩ := k1 HN.out; have S1 := HS.out g c w1 o1 b1; clear o1 b1 k1)
    | (go_at_call 100; (with_reducible refine S1.mono ?_); rintro e w2 ⟨rfl, o2, b2⟩))
  go_ret
  exact ⟨_, rfl, o2, b2⟩
end Go.Proofs.YtnplgagaoeckoaaGreat
namespace Go.Proofs.YtnplgagaoeckoaaGreat
open Go.RowKit Go.Lib

theorem fnI_cases (l : List Pe) (t : Pe → Bool) : fnI l t = -1 ∨ ∃ i : Nat, fnI l t = i ∧ i < l.length := by
  unfold fnI
  cases h : l.findIdx? t with
  | none => exact Or.inl rfl
  | some i =>
    rw [List.findIdx?_eq_some_iff_getElem] at h
    exact Or.inr ⟨i, rfl, h.1⟩
end Go.Proofs.YtnplgagaoeckoaaGreat
namespace Go.Proofs.YtnplgagaoeckoaaGreat
open Go.RowKit Go.Lib

theorem peIn_box {w : World} {B : Nat} {p : Pe} {T : TypeId} (h : BlockIs w B (peV p) T) : PeIn w B 0 p :=
  ⟨h.cell rfl, h.cell rfl, h.cell rfl, h.cell rfl, h.cell rfl, h.cell rfl, h.cell rfl, h.cell rfl, h.cell rfl, h.cell rfl⟩
end Go.Proofs.YtnplgagaoeckoaaGreat
namespace Go.Proofs.YtnplgagaoeckoaaGreat
open Go.RowKit Go.Lib
set_option linter.unusedSimpArgs false
set_option linter.unusedVariables false

/-- where a peer goes -/
def putI (l : List Pe) (p : Pe) : Nat := (l.findIdx? fun x => decide (0 < enCmp x.en p.en)).getD l.length
def putT (l : List Pe) (p : Pe) : List Pe := insL l (putI l p) p
end Go.Proofs.YtnplgagaoeckoaaGreat
namespace Go.Proofs.YtnplgagaoeckoaaGreat
open Go.RowKit Go.Lib

theorem putT_len (l : List Pe) (p : Pe) : (putT l p).length = l.length + 1 := by
  unfold putT insL
  simp only [List.length_append, List.length_take, List.length_cons, List.length_drop]
  omega
/-- peers put one by one -/
def pstL (l : List Pe) : List Pe := l.foldl putT []
theorem pst_len : ∀ (l a : List Pe), (l.foldl putT a).length = a.length + l.length
  | [], a => rfl
  | p :: r, a => by rw [List.foldl_cons, pst_len r, putT_len, List.length_cons]; omega
theorem pstL_len (l : List Pe) : (pstL l).length = l.length := by unfold pstL; rw [pst_len]; simp
end Go.Proofs.YtnplgagaoeckoaaGreat
namespace Go.Proofs.YtnplgagaoeckoaaGreat
open Go.Lib Go.Sort

theorem anti_en (a b : En) : enCmp a b < 0 ↔ 0 < enCmp b a := by
  have h := cmp_en.neg a b
  omega
theorem sput_put (p : Pe) : ∀ l : List Pe, sput (ltOf fun a b : Pe => enCmp a.en b.en) p l = putT l p
  | [] => rfl
  | y :: r => by
    have ih := sput_put p r
    unfold sput
    by_cases h : 0 < enCmp y.en p.en
    · have h' : ltOf (fun a b : Pe => enCmp a.en b.en) p y = true := decide_eq_true ((anti_en _ _).2 h)
      rw [if_pos h']
      unfold putT putI insL
      rw [List.findIdx?_cons, if_pos (decide_eq_true h)]
      rfl
    · have h' : ¬ ltOf (fun a b : Pe => enCmp a.en b.en) p y = true := fun e => h ((anti_en _ _).1 (of_decide_eq_true e))
      rw [if_neg h', ih]
      unfold putT putI insL
      rw [List.findIdx?_cons, if_neg (by simpa using h)]
      cases r.findIdx? (fun x => decide (0 < enCmp x.en p.en)) <;> simp
theorem ssort_pst : ∀ (l a : List Pe), l.foldl (fun o x => sput (ltOf fun a b : Pe => enCmp a.en b.en) x o) a = l.foldl putT a
  | [], _ => rfl
  | x :: r, a => by rw [List.foldl_cons, List.foldl_cons, sput_put, ssort_pst r]
theorem wo_en : WO (ltOf fun a b : Pe => enCmp a.en b.en) := wo_of (cmp_on cmp_en Pe.en)
theorem srtL_is (l : List Pe) : srtL l = pstL l := by
  unfold srtL
  rw [stableA_is wo_en]
  exact ssort_pst l []
theorem srtL_len (l : List Pe) : (srtL l).length = l.length := by rw [srtL_is, pstL_len]
end Go.Proofs.YtnplgagaoeckoaaGreat
namespace Go.Proofs.YtnplgagaoeckoaaGreat
open Go.RowKit Go.Lib
theorem insSort_noneP (a : Option Addr) (c : Nat) (fv : Value) (w : World) : Calls Tryz.prog 125 #[.slice a 0 c, .int .i64 0, .int .i64 0, fv] w fun e w' => e = .returned (.tuple #[]) ∧ w = w' := by
  go_enter Tryz.func125, Tryz.ntmps125
  go_wp2_with fail
  refine wp_loop_rounds 1 ?_
  rw [rounds_succ]
  go_wp2_with fail
  go_end0
  exact ⟨rfl, rfl⟩
theorem stable_noneP (a : Option Addr) (c : Nat) (fv : Value) (w : World) : Calls Tryz.prog 114 #[.slice a 0 c, .int .i64 0, fv] w fun e w' => e = .returned (.tuple #[]) ∧ w = w' := by
  go_enter Tryz.func114, Tryz.ntmps114
  go_wp2_with fail
  refine wp_loop_rounds 1 ?_
  rw [rounds_succ]
  go_wp2_with (go_at_call 125; refine (insSort_noneP _ _ _ _).mono ?_; rintro e w2 ⟨rfl, rfl⟩)
  refine wp_loop_rounds 1 ?_
  rw [rounds_succ]
  go_wp2_with fail
  go_end0
  exact ⟨rfl, rfl⟩
theorem sortStable_noneP (a : Option Addr) (c : Nat) (fv : Value) (w : World) : Calls Tryz.prog 100 #[.slice a 0 c, fv] w fun e w' => e = .returned (.tuple #[]) ∧ w = w' := by
  go_enter Tryz.func100, Tryz.ntmps100
  go_wp2_with (go_at_call 114; refine (stable_noneP _ _ _ _).mono ?_; rintro e w2 ⟨rfl, rfl⟩)
  go_end0
  exact ⟨rfl, rfl⟩
set_option maxRecDepth 100000 in
set_option maxHeartbeats 4000000 in
theorem sorted_none (v : Value) (w : World) (h : ReadsL peV 10 w v []) :
    Calls Tryz.prog 79 #[v] w fun e w' => ∃ r, e = .returned r ∧ ReadsL peV 10 w' r [] ∧ Below w.heap.size w w' := by
  have HCl := Lib.hid (clonePe v [] w h (by simp))
  clear h
  go_enter Tryz.func79, Tryz.ntmps79
  go_wp2_with (first
    | (go_at_call 99; (with_reducible refine HCl.out.mono ?_); rintro e w1 ⟨r1, rfl, o1, b1, k1⟩; obtain ⟨a1, c1, rfl⟩ := owns_slice o1)
    | (go_at_call 100; (refine (sortStable_noneP _ _ _ _).mono ?_); rintro e w2 ⟨rfl, rfl⟩))
  go_ret
  exact ⟨_, rfl, owns_readsL (l := []) o1, b1⟩
end Go.Proofs.YtnplgagaoeckoaaGreat
