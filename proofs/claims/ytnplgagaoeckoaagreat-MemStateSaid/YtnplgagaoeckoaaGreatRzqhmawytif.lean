/- Texts put together: Siege, ShB, SiegeB, HTail. No condition. -/
import Derived.Test.YtnplgagaoeckoaaGreatRwziyrduvnt
import Derived.Test.YtnplgagaoeckoaaGreatRucwvsyuqtv
import Derived.Test.YtnplgagaoeckoaaGreatRhshflinjux
import Derived.Test.YtnplgagaoeckoaaGreatRkuomsxsqlb
import Derived.Test.YtnplgagaoeckoaaGreatRjfjqandfij
import Derived.Deep.RegionHeld3
namespace Go.Proofs.YtnplgagaoeckoaaGreat
open Go.RowKit
set_option linter.unusedSimpArgs false
set_option linter.unusedVariables false

/-- the first place at which it holds, or -1 -/
def fnI (l : List Pe) (t : Pe → Bool) : Int := match l.findIdx? t with | some i => (i : Int) | none => -1
theorem fnI_hit {l : List Pe} {t : Pe → Bool} {k : Nat} {p : Pe} (hp : l[k]? = some p) (ht : t p = true) (hA : ∀ j q, j < k → l[j]? = some q → t q = false) : fnI l t = k := by
  have h : l.findIdx? t = some k := by
    rw [List.findIdx?_eq_some_iff_getElem]
    obtain ⟨hk, e⟩ := List.getElem?_eq_some_iff.1 hp
    refine ⟨hk, by rw [e]; exact ht, fun j hj => ?_⟩
    rw [hA j _ hj (List.getElem?_eq_getElem (by omega))]; simp
  unfold fnI; rw [h]
theorem fnI_miss {l : List Pe} {t : Pe → Bool} (hA : ∀ j q, j < l.length → l[j]? = some q → t q = false) : fnI l t = -1 := by
  have h : l.findIdx? t = none := by
    rw [List.findIdx?_eq_none_iff]
    intro x hx
    obtain ⟨j, hj, e⟩ := List.getElem_of_mem hx
    exact hA j x hj (by rw [List.getElem?_eq_getElem hj, e])
  unfold fnI; rw [h]
/-- the first place of an end's peer -/
def fdI (l : List Pe) (e : En) : Int := fnI l fun p => decide (p.en = e)

set_option maxRecDepth 100000 in
set_option maxHeartbeats 4000000 in
theorem refIndex_any (v : Value) (l : List Pe) (en : En) (w : World) (h : ReadsL peV 10 w v l) :
    Calls Tryz.prog 62 #[v, .agg #[.bool en.ad.v6, .int .u64 en.ad.hi, .int .u64 en.ad.lo, .int .i64 en.port]] w fun e w' => e = .returned (.int .i64 (fdI l en)) ∧ Below w.heap.size w w' := by
  obtain ⟨hm, p, c, rfl, h3⟩ := pes_open h
  clear h
  unfold fdI
  go_enter Tryz.func62, Tryz.ntmps62
  go_upto_region 2 with fail
  go_name_world W0 hW0
  have b0 : Below w.heap.size w W0 := by subst hW0; exact bel
  have s0 : w.heap.size < W0.heap.size := by subst hW0; simp
  have c0 : W0.cell? ⟨w.heap.size, 0, none⟩ = some (.bool en.ad.v6) := by subst hW0; simp [go_sem]
  have c1 : W0.cell? ⟨w.heap.size, 1, none⟩ = some (.int .u64 en.ad.hi) := by subst hW0; simp [go_sem]
  have c2 : W0.cell? ⟨w.heap.size, 2, none⟩ = some (.int .u64 en.ad.lo) := by subst hW0; simp [go_sem]
  have c3 : W0.cell? ⟨w.heap.size, 3, none⟩ = some (.int .i64 en.port) := by subst hW0; simp [go_sem]
  have HB0 := Lib.hid b0
  clear hW0 b0
  go_loopw [5] (fun i' wr => ∃ k : Nat, k ≤ l.length ∧ i' = .int .i64 k ∧ Hid (Below W0.heap.size W0 wr) ∧ Hid (∀ j q, j < k → l[j]? = some q → decide (q.en = en) = false)) (fun i' _ => l.length - (intOf i').toNat)
  case atStart => exact ⟨0, by omega, rfl, Below.refl _ _, fun j q hj => absurd hj (Nat.not_lt_zero _)⟩
  case round =>
    obtain ⟨k, hk, rfl, HB, HA⟩ := hrel
    by_cases hlt : k < l.length
    · obtain ⟨x, hx⟩ : ∃ x, l[k]? = some x := ⟨_, List.getElem?_eq_getElem hlt⟩
      obtain ⟨b, o, rfl, h4, h5, h6⟩ := h3 (by omega)
      have X := ((h6 k x hx).below (below2 HB0.out HB.out) h5).ext (Nat.lt_of_lt_of_le h5 (below2 HB0.out HB.out).size)
      have kc := fun o => HB.out.cell (p := ⟨w.heap.size, o, none⟩) s0
      have sz := Nat.lt_of_lt_of_le s0 HB.out.size
      have d0 := fun y => (ext_cell wr y (p := ⟨w.heap.size, 0, none⟩) sz).trans ((kc 0).trans c0)
      have d1 := fun y => (ext_cell wr y (p := ⟨w.heap.size, 1, none⟩) sz).trans ((kc 1).trans c1)
      have d2 := fun y => (ext_cell wr y (p := ⟨w.heap.size, 2, none⟩) sz).trans ((kc 2).trans c2)
      have d3 := fun y => (ext_cell wr y (p := ⟨w.heap.size, 3, none⟩) sz).trans ((kc 3).trans c3)
      have x0 := fun y => (X y).1; have x1 := fun y => (X y).2.1; have x2 := fun y => (X y).2.2.1; have x3 := fun y => (X y).2.2.2.1
      have hE := eqlEn x.en en
      have HX := Lib.hid hx
      have q1 : (0 : Int) ≤ (k : Int) := by omega
      have q2 : (k : Int) < (l.length : Int) := by omega
      clear hx h6 X kc sz c0 c1 c2 c3
      cases hq : decide (x.en = en) with
      | true =>
        rw [hq] at hE
        have HQ := Lib.hid hq
        clear hq
        go_wp2_with fail
        refine wp_region_ext (by kernel_rfl) (by kernel_rfl) ?_
        repeat (go_big_quiet_step (fail))
        refine wpQuiet_nil ?_
        intro _ hw'
        obtain ⟨y, hw''⟩ := hw'
        subst hw''
        go_wp2_with fail
        go_ret
        refine ⟨?_, below2 HB0.out (HB.out.trans ((ext_below wr y).mono HB.out.size))⟩
        rw [fnI_hit HX.out HQ.out HA.out]; rfl
      | false =>
        rw [hq] at hE
        have HQ := Lib.hid hq
        clear hq
        go_wp2_with fail
        refine wp_region_ext (by kernel_rfl) (by kernel_rfl) ?_
        repeat (go_big_quiet_step (fail))
        refine wpQuiet_nil ?_
        intro _ hw'
        obtain ⟨y, hw''⟩ := hw'
        subst hw''
        go_wp2_with fail
        go_roundw
        case rel =>
          refine ⟨k + 1, by omega, by go_num, HB.out.trans ((ext_below wr y).mono HB.out.size), fun j q hj hq => ?_⟩
          rcases Nat.lt_or_ge j k with e | e
          · exact HA.out j q e hq
          · have : j = k := by omega
            subst this
            rw [HX.out] at hq; injection hq with hq; subst hq; exact HQ.out
        case measure => simp [intOf]; omega
    · obtain rfl : k = l.length := by omega
      go_wp2_with fail
      go_ret
      exact ⟨by rw [fnI_miss HA.out]; rfl, below2 HB0.out HB.out⟩
end Go.Proofs.YtnplgagaoeckoaaGreat
namespace Go.Proofs.YtnplgagaoeckoaaGreat
open Go.RowKit Go.Lib

def EnIn (w : World) (b o : Nat) (p : En) : Prop := w.cell? ⟨b, o, none⟩ = some (.bool p.ad.v6) ∧ w.cell? ⟨b, o + 1, none⟩ = some (.int .u64 p.ad.hi) ∧ w.cell? ⟨b, o + 2, none⟩ = some (.int .u64 p.ad.lo) ∧ w.cell? ⟨b, o + 3, none⟩ = some (.int .i64 p.port)
theorem EnIn.below {B : Nat} {w w' : World} {b o : Nat} {p : En} (h : EnIn w b o p) (hb : Below B w w') (hlt : b < B) : EnIn w' b o p := by
  obtain ⟨a0, a1, a2, a3⟩ := h
  exact ⟨keep hb hlt a0, keep hb hlt a1, keep hb hlt a2, keep hb hlt a3⟩
end Go.Proofs.YtnplgagaoeckoaaGreat
namespace Go.Proofs.YtnplgagaoeckoaaGreat
open Go.RowKit

/-- how many may come, the quotas, the secret -/
structure St where
  most : Int
  q : Qu
  s : Nat
def St.fits (t : St) : Prop := (-9223372036854775808 ≤ t.most ∧ t.most ≤ 9223372036854775807) ∧ t.q.fits ∧ t.s < 18446744073709551616
theorem reads_blk {w : World} {B size : Nat} {us : List Value} {T : TypeId} (h : BlockIs w B us T) (hl : us.length = size) (hs : 0 < size) : Reads w (.slice (some ⟨B, 0, none⟩) 1 1) 1 size us :=
  ⟨by omega, by omega, Or.inr ⟨by omega, B, 0, 1, rfl, by omega, h.lt, fun j x hj => by rw [Nat.zero_add]; exact h.cell hj⟩⟩
end Go.Proofs.YtnplgagaoeckoaaGreat
namespace Go.Proofs.YtnplgagaoeckoaaGreat
open Go.RowKit

section
variable {P : Program} {ops : Array Oper} {md : Region.Mode} {S : World → Prop} {Q : Exit → Act → World → Prop}

def headH (P : Program) (md : Region.Mode) (ops : Array Oper) (Q : Exit → Act → World → Prop) (S : World → Prop) (n : Nat) (L : Array Bool → Act → World → Prop) : Nat → Array Bool → Act → World → Prop
  | 0, listed, a, w => L listed a w
  | f + 1, listed, a, w =>
    Region.ready md ops listed ≠ [] ∧ ∀ i ∈ Region.ready md ops listed, i < n ∧ wpOp P ops Q i (fun a' w' => S w' ∧ headH P md ops Q S n L f (listed.setIfInBounds i true) a' w') a w

theorem any_of_headH {n g : Nat} {L : Array Bool → Act → World → Prop} (hL : ∀ listed a w, L listed a w → wpAny P md ops Q g listed a w) :
    ∀ (f : Nat) (listed : Array Bool) (a : Act) (w : World), headH P md ops Q S n L f listed a w → wpAny P md ops Q (f + g) listed a w
  | 0, listed, a, w, h => by rw [Nat.zero_add]; exact hL _ _ _ h
  | f + 1, listed, a, w, h => by
    rw [show f + 1 + g = (f + g) + 1 by omega]
    exact ⟨fun h0 => absurd h0 h.1, fun i hi => wpOp_mono (fun a' w' h' => any_of_headH hL f _ a' w' h'.2) (h.2 i hi).2⟩

theorem headH_first {n i : Nat} {oi : Oper} {v : Value} {L : Array Bool → Act → World → Prop} (hi : ops[i]? = some oi) (hsel : ∀ (j : Nat) (o : Oper) cs b, ops[j]? = some o → o.op ≠ .select cs b)
    (hQ : ∀ c a w, Q (.panic c) (a.put oi.dst v) w → Q (.panic c) a w)
    (hs : Region.sinkB md ops n = true) (hc : Region.chainB md ops n = true) (hn : n < ops.size) (hin : i < n)
    (hdone : ∀ listed a w, L listed a w → ∀ j ∈ Region.ready md ops listed, n ≤ j) :
    ∀ (f : Nat) (listed : Array Bool) (a : Act) (w : World), HeadInv md ops n listed →
      (∀ j oj, ops[j]? = some oj → j ≠ i → listed.getD j true = false → (∀ e ∈ oj.after, Region.binds md e = true → e.on ≠ i) → oi.apart ops oj = true) →
      i ∈ Region.ready md ops listed → YieldsIf P ops S oi v a → S w →
      headH P md ops Q S n L f (listed.setIfInBounds i true) (a.put oi.dst v) w → headH P md ops Q S n L (f + 1) listed a w := by
  intro f
  induction f with
  | zero =>
    intro listed a w inv _ hr hy hS H
    have hun := (mem_ready.1 hr).1
    refine ⟨fun h => (by rw [h] at hr; cases hr), fun j hj => ?_⟩
    have hjn : j < n := by
      rcases Nat.lt_or_ge j n with h | h
      · exact h
      · exact absurd hj (tail_waits hs hc hn inv _ i rfl hin hun j h)
    refine ⟨hjn, ?_⟩
    by_cases hji : j = i
    · subst hji; exact hy.wpOp hi hS ⟨hS, H⟩
    · have := hdone _ _ _ H j (ready_mono hj hji)
      omega
  | succ f ih =>
    intro listed a w inv hfree hr hy hS H
    have hun := (mem_ready.1 hr).1
    refine ⟨fun h => (by rw [h] at hr; cases hr), fun j hj => ?_⟩
    have hjn : j < n := by
      rcases Nat.lt_or_ge j n with h | h
      · exact h
      · exact absurd hj (tail_waits hs hc hn inv _ i rfl hin hun j h)
    refine ⟨hjn, ?_⟩
    by_cases hji : j = i
    · subst hji; exact hy.wpOp hi hS ⟨hS, H⟩
    · have h1 := (H.2 j (ready_mono hj hji)).2
      obtain ⟨hjun, oj, hoj, hall⟩ := mem_ready.1 hj
      have hnot : ∀ e ∈ oj.after, Region.binds md e = true → e.on ≠ i := fun e he hb heq => by
        have h1 := hall e he hb
        rw [heq, getD_both hun] at h1
        cases h1
      have h2 := wpOp_putIf hoj (hfree j oj hoj hji hjun hnot) (fun cs b => hsel i oi cs b hi) (fun cs b => hsel j oj cs b hoj) hQ hy h1
      have hfree' : ∀ k ok, ops[k]? = some ok → k ≠ i → (listed.setIfInBounds j true).getD k true = false →
          (∀ e ∈ ok.after, Region.binds md e = true → e.on ≠ i) → oi.apart ops ok = true := fun k ok hk hki hun hno => by
        refine hfree k ok hk hki ?_ hno
        by_cases hjk : j = k
        · subst hjk; exact hjun
        · rw [getD_set_ne true hjk] at hun; exact hun
      refine wpOp_mono (fun a' w' h3 => ⟨h3.2.1, ih (listed.setIfInBounds j true) a' w' (inv.set hj hjn) hfree' (ready_mono hr (Ne.symm hji)) h3.1 h3.2.1 ?_⟩) h2
      rw [Array.setIfInBounds_comm _ _ hji]
      exact h3.2.2

/-- the invariant of the head, as a test -/
def headInvB (md : Region.Mode) (ops : Array Oper) (n : Nat) (listed : Array Bool) : Bool :=
  decide (listed.size = ops.size) && ((List.range ops.size).all fun j => !listed.getD j false || match ops[j]? with
    | some oj => oj.after.all fun e => !Region.binds md e || listed.getD e.on false
    | none => true) && (List.range ops.size).all fun t => decide (t < n) || !listed.getD t true
theorem headInvB_spec {n : Nat} {listed : Array Bool} (h : headInvB md ops n listed = true) : HeadInv md ops n listed := by
  unfold headInvB at h
  simp only [Bool.and_eq_true, decide_eq_true_eq, List.all_eq_true, List.mem_range, Bool.or_eq_true, Bool.not_eq_true'] at h
  obtain ⟨⟨h1, h2⟩, h3⟩ := h
  refine ⟨h1, fun j oj hj hl e he hb => ?_, fun t ht ht' => ?_⟩
  · rcases h2 j (Array.getElem?_eq_some_iff.1 hj).1 with h | h
    · rw [hl] at h; cases h
    · simp only [hj] at h
      have := Array.all_eq_true_iff_forall_mem.1 h e he
      simp only [Bool.or_eq_true, Bool.not_eq_true', hb] at this
      rcases this with h | h
      · cases h
      · exact h
  · rcases h3 t ht' with h | h
    · omega
    · exact h
/-- what the region must be: once a region -/
def headB (md : Region.Mode) (ops : Array Oper) (n : Nat) : Bool := Region.noSelect ops && decide (n < ops.size) && Region.sinkB md ops n && Region.chainB md ops n
def headLt (P : Program) (ops : Array Oper) (Q : Exit → Act → World → Prop) (g n : Nat) (l : List Oper) (listed : Array Bool) (a : Act) (w : World) : Prop := Region.seqB .any ops g n listed = true ∧ wpList P ops Q l a w
theorem headH_take {n g i : Nat} {oi : Oper} {v : Value} {l : List Oper} {f : Nat} {listed : Array Bool} {a : Act} {w : World} (hB : headB .any ops n = true) (hi : ops[i]? = some oi)
    (hin : Nat.blt i n = true) (hf : Region.free .any ops listed i = true) (hr : (Region.ready .any ops listed).contains i = true) (hv : headInvB .any ops n listed = true)
    (hQ : ∀ c a w, Q (.panic c) (a.put oi.dst v) w → Q (.panic c) a w) (hy : YieldsIf P ops S oi v a) (hS : S w)
    (h : headH P .any ops Q S n (headLt P ops Q g n l) f (listed.setIfInBounds i true) (a.put oi.dst v) w) : headH P .any ops Q S n (headLt P ops Q g n l) (f + 1) listed a w := by
  unfold headB at hB
  simp only [Bool.and_eq_true, decide_eq_true_eq] at hB
  obtain ⟨⟨⟨hsel, hn⟩, hs⟩, hc⟩ := hB
  exact headH_first hi (Region.noSelect_spec hsel) hQ hs hc hn (Eq.mp Nat.blt_eq hin) (fun listed' a' w' hL => seqB_ready hL.1) f listed a w (headInvB_spec hv) (Region.free_spec hi hf) (by simpa using hr) hy hS h
theorem headH_one {n i : Nat} {o : Oper} {L : Array Bool → Act → World → Prop} {f : Nat} {listed : Array Bool} {a : Act} {w : World} (hi : ops[i]? = some o) (hin : Nat.blt i n = true) (hr : Region.ready md ops listed = [i])
    (h : ∀ K' : Act → World → Prop, Hid (∀ a w, S w → (S w → headH P md ops Q S n L f (listed.setIfInBounds i true) a w) → K' a w) → if Region.wanted o (yielded ops a.tmps) = true then Oper.wp P o a w K' Q else K' (a.put o.dst undef) w) :
    headH P md ops Q S n L (f + 1) listed a w := by
  refine ⟨by rw [hr]; simp, fun j hj => ?_⟩
  rw [hr] at hj
  obtain rfl : j = i := by simpa using hj
  exact ⟨Eq.mp Nat.blt_eq hin, wpOp_step hi fun K' hK => h K' fun a w hS hW => hK a w ⟨hS, hW hS⟩⟩
theorem headH_two {n i j : Nat} {o p : Oper} {L : Array Bool → Act → World → Prop} {f : Nat} {listed : Array Bool} {a : Act} {w : World} (hi : ops[i]? = some o) (hj : ops[j]? = some p) (hin : Nat.blt i n = true) (hjn : Nat.blt j n = true) (hr : Region.ready md ops listed = [i, j])
    (h : ∀ K' : Act → World → Prop, Hid (∀ a w, S w → (S w → headH P md ops Q S n L f (listed.setIfInBounds i true) a w) → K' a w) → if Region.wanted o (yielded ops a.tmps) = true then Oper.wp P o a w K' Q else K' (a.put o.dst undef) w)
    (h' : ∀ K' : Act → World → Prop, Hid (∀ a w, S w → (S w → headH P md ops Q S n L f (listed.setIfInBounds j true) a w) → K' a w) → if Region.wanted p (yielded ops a.tmps) = true then Oper.wp P p a w K' Q else K' (a.put p.dst undef) w) :
    headH P md ops Q S n L (f + 1) listed a w := by
  refine ⟨by rw [hr]; simp, fun k hk => ?_⟩
  rw [hr] at hk
  rcases List.mem_cons.1 hk with rfl | hk
  · exact ⟨Eq.mp Nat.blt_eq hin, wpOp_step hi fun K' hK => h K' fun a w hS hW => hK a w ⟨hS, hW hS⟩⟩
  · obtain rfl : k = j := by simpa using hk
    exact ⟨Eq.mp Nat.blt_eq hjn, wpOp_step hj fun K' hK => h' K' fun a w hS hW => hK a w ⟨hS, hW hS⟩⟩
theorem named_world {K : Act → World → Prop} {a : Act} {w : World} (h : ∀ W, W = w → K a W) : K a w := h w rfl
theorem headH_done {n g : Nat} {l : List Oper} {listed : Array Bool} {a : Act} {w : World} (hq : Region.seqB .any ops g n listed = true) (h : wpList P ops Q l a w) : headH P .any ops Q S n (headLt P ops Q g n l) 0 listed a w := ⟨hq, h⟩
theorem wp_region_headH {id : Nat} {a : Act} {w : World} {l : List Oper} (S : World → Prop) (n : Nat) (hm : P.follows .mixedOrders = true) (hB : headB .any l.toArray n = true)
    (h : headH P .any l.toArray Q S n (headLt P l.toArray Q (l.length - n) n (l.drop n)) n (Array.replicate l.length false) a w.drew) : (Code.region id l.toArray true).wp P Q a w := by
  unfold headB at hB
  simp only [Bool.and_eq_true, decide_eq_true_eq] at hB
  obtain ⟨⟨⟨hsel, hn⟩, hs⟩, hc⟩ := hB
  have hn' : n < l.length := by simpa using hn
  have hdl : (l.drop n).length = l.length - n := by simp
  refine wp_region_any hm ?_
  have := any_of_headH (Q := Q) (g := l.length - n) (fun listed a' w' hL => by
    have := wpAny_of_seq (md := .any) (Q' := Q) (l.drop n) n listed a' w' (fun j => by simp [List.getElem?_drop]) (by rw [hdl]; exact hL.1) hL.2
    rwa [hdl] at this) _ _ _ _ h
  rw [show n + (l.length - n) = l.toArray.size by simp; omega] at this
  exact this
end
end Go.Proofs.YtnplgagaoeckoaaGreat
