/- Texts put together: RankD, RankE, RankF, RankT, LawRank. No condition. -/
import Derived.Test.YtdjmejdfcceknaaQ02a01eyfjyxs
import Derived.Test.YtdjmejdfcceknaaSortN
import Derived.Test.YtdjmejdfcceknaaQcede69lsidyu
import Derived.Test.YtdjmejdfcceknaaAppend
import Derived.Test.YtdjmejdfcceknaaQ668131zsapqc
/- The contract of rank.First: the places of those that count, as they stand, cut. Conditions: numbers are 64 bits. -/
namespace Go.Proofs.Ytdjmejdfcceknaa
open Go.RowKit

def zPe : Pe := ⟨⟨⟨false, 0, 0⟩, 0⟩, false, 0, 0, 0, 0, 0⟩
def rkGet (l : List Pe) (i : Nat) : Pe := l[i]?.getD zPe
def rkLt (l : List Pe) (q : Int) (s : Nat) (i k : Nat) : Bool := decide (rkFull (rkGet l i) (rkGet l k) q s < 0)
def rkIdx (l : List Pe) (q : Int) (k : Nat) : List Nat := (List.range k).filter fun i => rkCounts (rkGet l i) q
def rkFirst (l : List Pe) (q n : Int) (s : Nat) : List Nat := (ssort (rkLt l q s) (rkIdx l q l.length)).take n.toNat
abbrev Ix (l : List Pe) := {i : Nat // i < l.length}
def ixV (l : List Pe) (i : Ix l) : Value := .int .i64 (i.1 : Int)
def natV (i : Nat) : Value := .int .i64 (i : Int)
theorem rkGet_at {l : List Pe} {i : Nat} {p : Pe} (h : l[i]? = some p) : rkGet l i = p := by unfold rkGet; rw [h]; rfl
theorem rkIdx_succ (l : List Pe) (q : Int) (k : Nat) : rkIdx l q (k + 1) = rkIdx l q k ++ (if rkCounts (rkGet l k) q = true then [k] else []) := by
  unfold rkIdx; rw [List.range_succ, List.filter_append]; congr 1
  simp only [List.filter_cons, List.filter_nil]
theorem sput_map {α β : Type} (f : α → β) (lt : α → α → Bool) (lt' : β → β → Bool) (h : ∀ x y, lt x y = lt' (f x) (f y)) (x : α) : ∀ l : List α, (sput lt x l).map f = sput lt' (f x) (l.map f)
  | [] => rfl
  | y :: r => by
    simp only [sput, List.map_cons, h x y]
    split
    · rfl
    · rw [List.map_cons, sput_map f lt lt' h x r]
theorem ssort_map {α β : Type} (f : α → β) (lt : α → α → Bool) (lt' : β → β → Bool) (h : ∀ x y, lt x y = lt' (f x) (f y)) (l : List α) : (ssort lt l).map f = ssort lt' (l.map f) := by
  rw [← List.reverse_reverse l]
  induction l.reverse with
  | nil => rfl
  | cons x r ih => rw [List.reverse_cons, ssort_snoc, sput_map f lt lt' h, ih, List.map_append, List.map_cons, List.map_nil, ssort_snoc]
/-- the order that First sorts by, a weak one -/
theorem cmp_full (q : Int) (s : Nat) : Cmp fun a b : Pe => rkFull a b q s := by
  have h : Cmp fun a b : Pe => rkCmp a b q s := by
    unfold rkCmp
    by_cases h1 : q = 1
    · simp only [if_pos h1]
      have e : (fun a b : Pe => cmpI (rkKey b s) (rkKey a s)) = fun a b : Pe => cmpI (-(rkKey a s : Int)) (-(rkKey b s : Int)) := by
        funext a b; unfold cmpI; repeat' split
        all_goals omega
      rw [e]; exact cmp_on cmp_int (fun a : Pe => -(rkKey a s : Int))
    simp only [if_neg h1]
    by_cases h2 : q = 2
    · simp only [if_pos h2]; exact cmp_on cmp_int (fun a : Pe => a.ping)
    simp only [if_neg h2]
    by_cases h3 : q = 3
    · simp only [if_pos h3]
      have e : (fun a b : Pe => cmpI b.work a.work) = fun a b : Pe => cmpI (-a.work) (-b.work) := by
        funext a b; unfold cmpI; repeat' split
        all_goals omega
      rw [e]; exact cmp_on cmp_int (fun a : Pe => -a.work)
    simp only [if_neg h3]
    by_cases h4 : q = 4
    · simp only [if_pos h4]; exact cmp_on cmp_int (fun a : Pe => a.since)
    · simp only [if_neg h4]; exact ⟨fun _ _ => rfl, fun _ _ _ _ _ => by omega⟩
  have h2 := cmp_then h (cmp_on cmp_en (fun a : Pe => a.en))
  have e : (fun a b : Pe => rkFull a b q s) = _ := funext fun a => funext fun b => orI_two (rkCmp a b q s) (enCmp a.en b.en)
  rw [e]; exact h2
theorem wo_of {α : Type} {c : α → α → Int} (C : Cmp c) : WO fun a b => decide (c a b < 0) := by
  constructor
  · intro a b d h1 h2
    have h1 : c a b < 0 := by simpa using h1
    have h2 : c b d < 0 := by simpa using h2
    exact decide_eq_true (C.le_eq h1 (show c b d ≤ 0 by omega))
  · intro a b d h1 h2
    have h1 : ¬ c a b < 0 := by simpa using h1
    have h2 : ¬ c b d < 0 := by simpa using h2
    have := C.trans d b a (by rw [C.neg b d]; omega) (by rw [C.neg a b]; omega)
    exact decide_eq_false (by rw [C.neg d a]; omega)
  · intro a b h1
    have h1 : c a b < 0 := by simpa using h1
    exact decide_eq_false (by rw [C.neg a b]; omega)
theorem wo_lt (l : List Pe) (q : Int) (s : Nat) : WO (rkLt l q s) := wo_of (cmp_on (cmp_full q s) (rkGet l))
end Go.Proofs.Ytdjmejdfcceknaa
/- The contract of rank.First: the places of those that count, as they stand, cut. Conditions: numbers are 64 bits. -/
namespace Go.Proofs.Ytdjmejdfcceknaa
open Go.Shelf Go.RowKit Go.Lib Go.Sort

/-- what the sort's order wants: in every world of the sort the closure answers -/
theorem rk_cmpB (l : List Pe) (hl : ∀ x ∈ l, x.fits) (hn : 0 < l.length) (q : Int) (s : Nat) (hs : s < 18446744073709551616) (v : Value) (B1 B2 B3 g : Nat) (n : Nat) (w : World) (h : ReadsL peV 10 w v l)
    (c1 : w.cell? ⟨B1, 0, none⟩ = some v) (c2 : w.cell? ⟨B2, 0, none⟩ = some (.int .i64 q)) (c3 : w.cell? ⟨B3, 0, none⟩ = some (.int .u64 s)) (l1 : B1 < w.heap.size) (l2 : B2 < w.heap.size) (l3 : B3 < w.heap.size) (n1 : B1 ≠ g) (n2 : B2 ≠ g) (n3 : B3 ≠ g)
    (hb : ∀ b o c, v = .slice (some ⟨b, o, none⟩) l.length c → b ≠ g) (inst : Inhabited (Ix l)) :
    CmpB Try.prog 91 #[.pointer (some ⟨B1, 0, none⟩), .pointer (some ⟨B2, 0, none⟩), .pointer (some ⟨B3, 0, none⟩)] (ixV l) (fun x y => rkFull (rkGet l x.1) (rkGet l y.1) q s) g 0 n w := by
  intro W dk hsz hS x y
  have hx : l[x.1]? = some (rkGet l x.1) := by unfold rkGet; rw [List.getElem?_eq_getElem x.2]; rfl
  have hy : l[y.1]? = some (rkGet l y.1) := by unfold rkGet; rw [List.getElem?_eq_getElem y.2]; rfl
  have hz := hS.size
  have hR : ReadsL peV 10 W v l := by
    obtain ⟨h1, h2, h3⟩ := h
    refine ⟨h1, h2, ?_⟩
    rcases h3 with ⟨h0, _⟩ | ⟨hp, b, o, c, hv, hc, hlt, hxs⟩
    · omega
    · refine Or.inr ⟨hp, b, o, c, hv, hc, by omega, fun j x hj => ?_⟩
      rw [hS.other (p := ⟨b, o + j, none⟩) (hb b o c hv) hlt]; exact hxs j x hj
  exact rk_closure v l hl q s hs B1 B2 B3 x.1 y.1 _ _ hx hy W hR ((hS.other (p := ⟨B1, 0, none⟩) n1 l1).trans c1) ((hS.other (p := ⟨B2, 0, none⟩) n2 l2).trans c2) ((hS.other (p := ⟨B3, 0, none⟩) n3 l3).trans c3) (by omega) (by omega) (by omega)
theorem ixV_one (l : List Pe) : OneCell (ixV l) := fun _ => rfl
theorem reads_take {w : World} {v : Value} {n : Nat} {xs : List Value} {b : Nat} {c k : Nat} (h : Reads w v n 1 xs) (hv : v = .slice (some ⟨b, 0, none⟩) n c) (hk : k ≤ n) : Reads w (.slice (some ⟨b, 0, none⟩) k c) k 1 (xs.take k) := by
  subst hv
  obtain ⟨h1, h2, h3⟩ := h
  refine ⟨by rw [List.length_take]; omega, by omega, ?_⟩
  rcases h3 with ⟨h0, a', c', hv⟩ | ⟨hp, b', o, c', hv, hc, hlt, hx⟩
  · exact Or.inl ⟨by omega, _, _, by rw [show k = 0 by omega]⟩
  · injection hv with e1 e2 e3
    injection e1 with e1
    injection e1 with e4 e5
    subst e4 e5 e3
    by_cases hk0 : k = 0
    · exact Or.inl ⟨hk0, _, _, by rw [hk0]⟩
    · exact Or.inr ⟨by omega, b, 0, c, rfl, by omega, hlt, fun j x hj => by
        rw [List.getElem?_take] at hj
        split at hj
        · exact hx j x hj
        · cases hj⟩
theorem first_end (l : List Pe) (q n : Int) (s : Nat) (xs : List (Ix l)) (g cap nn kk : Nat) (wr w6 : World) [inst : Inhabited (Ix l)] (R : Go.Proofs.Row1 (ixV l) wr g 0 xs.toArray)
    (W : WO fun x y : Ix l => decide (rkFull (rkGet l x.1) (rkGet l y.1) q s < 0)) (HL : (ssort (fun x y : Ix l => decide (rkFull (rkGet l x.1) (rkGet l y.1) q s < 0)) xs).map Subtype.val = ssort (rkLt l q s) (rkIdx l q l.length))
    (S : SB (ixV l) wr g 0 (stableA (ltOf fun x y : Ix l => rkFull (rkGet l x.1) (rkGet l y.1) q s) xs.toArray) w6) (hc : xs.length ≤ cap) (hn : nn = n.toNat) (hk : kk = min nn xs.length) (hx : xs.length ≤ 9223372036854775807) :
    Reads w6 (.slice (some ⟨g, 0, none⟩) kk cap) (rkFirst l q n s).length 1 ((rkFirst l q n s).map natV) := by
  have hD : (stableA (ltOf fun x y : Ix l => rkFull (rkGet l x.1) (rkGet l y.1) q s) xs.toArray).toList = ssort (fun x y : Ix l => decide (rkFull (rkGet l x.1) (rkGet l y.1) q s < 0)) xs := by
    have := stableA_is (lt := ltOf fun x y : Ix l => rkFull (rkGet l x.1) (rkGet l y.1) q s) W xs.toArray
    rw [this]; rfl
  generalize stableA (ltOf fun x y : Ix l => rkFull (rkGet l x.1) (rkGet l y.1) q s) xs.toArray = D at *
  have hs : D.size = xs.length := by
    rw [← Array.length_toList, hD, ssort_len]
  have hm : D.toList.map (ixV l) = (ssort (rkLt l q s) (rkIdx l q l.length)).map natV := by
    rw [hD, ← HL, List.map_map]; rfl
  have hlen : (ssort (rkLt l q s) (rkIdx l q l.length)).length = xs.length := by rw [← HL, List.length_map, ssort_len]
  have hr : Reads w6 (.slice (some ⟨g, 0, none⟩) xs.length cap) xs.length 1 ((ssort (rkLt l q s) (rkIdx l q l.length)).map natV) := by
    refine ⟨by rw [List.length_map, hlen]; omega, hx, ?_⟩
    rcases Nat.eq_zero_or_pos xs.length with h0 | h0
    · exact Or.inl ⟨h0, _, _, by rw [h0]⟩
    · refine Or.inr ⟨h0, g, 0, cap, rfl, hc, Nat.lt_of_lt_of_le R.hblk S.size, fun j x hj => ?_⟩
      rw [← hm] at hj
      have hjl : j < D.size := by
        have := (List.getElem?_eq_some_iff.1 hj).1
        simpa using this
      have := S.c1 R (by simp [hs]) j hjl
      rw [this]
      rw [List.getElem?_map] at hj
      have e : D[j]! = D.toList[j]?.getD default := arr_get D j
      rw [e]
      rw [List.getElem?_eq_getElem (by simpa using hjl)] at hj ⊢
      simpa using hj
  have hk2 : (rkFirst l q n s).length = kk := by
    unfold rkFirst; rw [List.length_take, hlen, hk, hn]
  have ht := reads_take hr rfl (k := kk) (by omega)
  rw [hk2]
  have e : (rkFirst l q n s).map natV = ((ssort (rkLt l q s) (rkIdx l q l.length)).map natV).take kk := by
    unfold rkFirst
    rw [← List.map_take]
    congr 1
    rw [hk, ← hn]
    rcases Nat.le_total nn xs.length with h | h
    · rw [Nat.min_eq_left h]
    · rw [Nat.min_eq_right h, List.take_of_length_le (by omega), List.take_of_length_le (by omega)]
  rw [e]; exact ht
set_option maxRecDepth 100000 in
set_option maxHeartbeats 8000000 in
theorem rk_first_any (v : Value) (l : List Pe) (hl : ∀ x ∈ l, x.fits) (q n : Int) (hn64 : -9223372036854775808 ≤ n ∧ n ≤ 9223372036854775807) (s : Nat) (hs : s < 18446744073709551616) (w : World) (h : ReadsL peV 10 w v l) (hn : l.length ≤ 1000000) :
    Calls Try.prog 43 #[v, .int .i64 q, .int .i64 n, .int .u64 s] w fun e w' => ∃ r, e = .returned r ∧ Reads w' r (rkFirst l q n s).length 1 ((rkFirst l q n s).map natV) ∧ Below w.heap.size w w' := by
  have h0 := h
  obtain ⟨hm, p, c, rfl, h3⟩ := pes_open h
  clear h
  go_enter Try.func43, Try.ntmps43
  go_upto_region 2 with fail
  go_name_world W0 hW0
  have z0 : W0.heap.size = w.heap.size + 3 := by subst hW0; simp
  have c1 : W0.cell? ⟨w.heap.size, 0, none⟩ = some (.slice p l.length c) := by subst hW0; (first | (simp [go_sem, *]; done) | (simp (disch := first | omega | (simp; omega) | (simp [go_sem, *]; done)) [go_sem, World.cell?_setCell_far, World.cell?_alloc_past, World.frozen?_alloc_past, *]; done))
  have c2 : W0.cell? ⟨w.heap.size + 1, 0, none⟩ = some (.int .i64 q) := by subst hW0; (first | (simp [go_sem, *]; done) | (simp (disch := first | omega | (simp; omega) | (simp [go_sem, *]; done)) [go_sem, World.cell?_setCell_far, World.cell?_alloc_past, World.frozen?_alloc_past, *]; done))
  have c3 : W0.cell? ⟨w.heap.size + 2, 0, none⟩ = some (.int .u64 s) := by subst hW0; (first | (simp [go_sem, *]; done) | (simp (disch := first | omega | (simp; omega) | (simp [go_sem, *]; done)) [go_sem, World.cell?_setCell_far, World.cell?_alloc_past, World.frozen?_alloc_past, *]; done))
  have b0 : Below w.heap.size w W0 := by subst hW0; (repeat (first | with_reducible assumption | with_reducible exact Below.refl _ _ | with_reducible refine Below.setCell ?_ (by first | omega | (simp; done) | (simp; omega)) _ | with_reducible refine Below.alloc ?_ (by first | omega | (simp; done) | (simp; omega)) _ | with_reducible refine Below.drew ?_ | (with_reducible refine Below.trans ?_ (Below.mono (by with_reducible assumption) (by first | omega | (simp; done) | (simp; omega)))) | (refine Below.trans ?_ (Below.mono (by assumption) (by first | omega | (simp; done) | (simp; omega))))))
  clear hW0
  go_wp2_with fail
  go_loopw [9, 14] (fun at' i' wr => ∃ (k : Nat) (xs : List (Ix l)), k ≤ l.length ∧ i' = .int .i64 k ∧ Hid (wr.ownsRow W0.heap.size 3 1 at' xs.length (xs.map (ixV l))) ∧ Hid (Below W0.heap.size W0 wr) ∧ Hid (xs.map Subtype.val = rkIdx l q k)) (fun _ i' _ => l.length - (intOf i').toNat)
  case atStart => exact ⟨0, [], by omega, rfl, ⟨rfl, Or.inl ⟨rfl, rfl⟩⟩, Below.refl _ _, rfl⟩
  case round =>
    obtain ⟨k, xs, hk, rfl, HO, HB, HX⟩ := hrel
    have hzb := HB.out.size
    have hxl : xs.length ≤ k := by
      have := congrArg List.length HX.out
      rw [List.length_map] at this
      rw [this]; unfold rkIdx
      exact Nat.le_trans (List.length_filter_le _ _) (by simp)
    by_cases hlt : k < l.length
    · obtain ⟨p, hp⟩ : ∃ p, l[k]? = some p := ⟨_, List.getElem?_eq_getElem hlt⟩
      obtain ⟨b, o, rfl, h4, h5, h6⟩ := h3 (by omega)
      have hX := rkIdx_succ l q k
      rw [rkGet_at hp] at hX
      have hc := fun w => rk_counts_any p q w
      have K := (h6 k p hp).below (b0.trans (HB.out.mono b0.size)) h5
      have d2 : wr.cell? ⟨w.heap.size + 1, 0, none⟩ = some (.int .i64 q) := (HB.out.cell (p := ⟨w.heap.size + 1, 0, none⟩) (by show w.heap.size + 1 < _; omega)).trans c2
      have q1 : (0 : Int) ≤ (k : Int) := by omega
      have q2 : (k : Int) < (l.length : Int) := by omega
      generalize rkCounts p q = cc at *
      have HXX := Lib.hid hX; have HC := Lib.hid hc; have HL := Lib.hid hlt
      clear hX hc hp
      obtain ⟨k0, k1, k2, k3, k4, k5, k6, k7, k8, k9⟩ := K
      go_upto_region 5 with (refine list_store_blk rfl 34 _ _ rfl (wr.heap.size) _ _ 34 (BlockIs.newAt' _ _ _ (by simp)) rfl rfl (by kernel_rfl) rfl (by simp [Value.oneCell']) wr.heap.size wr (by (repeat (first | with_reducible assumption | with_reducible exact Below.refl _ _ | with_reducible refine Below.setCell ?_ (by first | omega | (simp; done) | (simp; omega)) _ | with_reducible refine Below.alloc ?_ (by first | omega | (simp; done) | (simp; omega)) _ | with_reducible refine Below.drew ?_ | (with_reducible refine Below.trans ?_ (Below.mono (by with_reducible assumption) (by first | omega | (simp; done) | (simp; omega)))) | (refine Below.trans ?_ (Below.mono (by assumption) (by first | omega | (simp; done) | (simp; omega))))))) (Nat.le_refl _) ?_; intro W5 hP hoth hsz b5; clear hoth)
      clear k0 k1 k2 k3 k4 k5 k6 k7 k8 k9
      have d5 : W5.cell? ⟨w.heap.size + 1, 0, none⟩ = some (.int .i64 q) := (b5.cell (p := ⟨w.heap.size + 1, 0, none⟩) (by show w.heap.size + 1 < _; omega)).trans d2
      have hO5 := owns_below HO.out b5
      have hB5 : Below W0.heap.size W0 W5 := HB.out.trans (b5.mono hzb)
      have x0 := hP.cell (i := 0) rfl
      have x1 := hP.cell (i := 1) rfl
      have x2 := hP.cell (i := 2) rfl
      have x3 := hP.cell (i := 3) rfl
      have x4 := hP.cell (i := 4) rfl
      have x5 := hP.cell (i := 5) rfl
      have x6 := hP.cell (i := 6) rfl
      have x7 := hP.cell (i := 7) rfl
      have x8 := hP.cell (i := 8) rfl
      have x9 := hP.cell (i := 9) rfl
      have xf := hP.frozen
      have xl := hP.lt
      clear d2
      cases cc with
      | false =>
        have HO5 := Lib.hid hO5; have HB5 := Lib.hid hB5
        clear hO5 hB5
        go_wp2_with (go_at_call 38; (with_reducible refine (HC.out _).mono ?_); rintro e w6 ⟨rfl, b6⟩)
        go_roundw
        case rel => exact ⟨k + 1, xs, by omega, by go_num, owns_below HO5.out b6, HB5.out.trans (b6.mono HB5.out.size), by show _ = _; rw [HXX.out, HX.out]; simp⟩
        case measure => simp [intOf]; omega
      | true =>
        have HO5 := Lib.hid hO5; have HB5 := Lib.hid hB5
        clear hO5 hB5
        go_upto_region 6 with (go_at_call 38; (with_reducible refine (HC.out _).mono ?_); rintro e w6 ⟨rfl, b6⟩)
        have hO6 := owns_below HO5.out b6
        have hB6 : Below W0.heap.size W0 w6 := HB5.out.trans (b6.mono HB5.out.size)
        have hz6 := hB6.size
        go_wp2_with (at_builtin; refine list_app intRow rfl _ _ rfl W0.heap.size _ xs.length (xs.map (ixV l)) rfl hO6 [.int .i64 k] rfl rfl rfl (by omega) (by omega) hz6 W0.heap.size W0 hB6 (Nat.le_refl _) ?_; intro v' w7 hO7 hB7)
        go_roundw
        case rel => exact ⟨k + 1, xs ++ [⟨k, HL.out⟩], by omega, by go_num, (show World.ownsRow _ _ _ _ _ _ _ by simpa [ixV] using hO7), hB7, by show _ = _; rw [HXX.out, List.map_append, HX.out]; simp⟩
        case measure => simp [intOf]; omega
    · obtain rfl : k = l.length := by omega
      obtain ⟨nn, hnn⟩ : ∃ nn : Nat, (max n 0) = (nn : Int) := ⟨n.toNat, by omega⟩
      have hnt : nn = n.toNat := by omega
      obtain ⟨kk, hkk⟩ : ∃ kk : Nat, min (nn : Int) (xs.length : Int) = (kk : Int) := ⟨min nn xs.length, by omega⟩
      have hkn : kk = min nn xs.length := by omega
      have HB0 := Lib.hid (b0.trans (HB.out.mono b0.size))
      have HN := Lib.hid hnt; have HK := Lib.hid hkn
      clear hnt hkn
      rcases HO.out.2 with ⟨rfl, hx0⟩ | ⟨g, cap, cur, rfl, hg, hh, hnc, hcm, hcs, hcur⟩
      · have e0 : xs = [] := List.length_eq_zero_iff.1 hx0
        subst e0
        have hkk0 : kk = 0 := by have := HK.out; simp at this; exact this
        subst hkk0
        have HE : Hid (rkFirst l q n s = []) := by
          show _ = _; unfold rkFirst; rw [← HX.out]; simp [ssort]
        clear hkk
        have hkk : min (nn : Int) 0 = 0 := by omega
        try simp only [List.length_nil]
        go_wp2_with (go_at_call 90; (with_reducible refine (sortStable_none _ _ _ _).mono ?_); rintro e w6 ⟨rfl, rfl⟩)
        go_ret
        exact ⟨_, rfl, by rw [HE.out]; exact ⟨rfl, by decide, Or.inl ⟨rfl, _, _, rfl⟩⟩, HB0.out⟩
      · rw [Nat.mul_one] at hcs hcur
        obtain ⟨g, rfl⟩ : ∃ g', g = g' := ⟨g, rfl⟩
        have hgl : g < wr.heap.size := by
          rcases Nat.lt_or_ge g wr.heap.size with h | h
          · exact h
          · rw [Array.getElem?_eq_none h] at hh; cases hh
        by_cases hx0 : xs = []
        · subst hx0
          have hkk0 : kk = 0 := by have := HK.out; simp at this; exact this
          subst hkk0
          have HE : Hid (rkFirst l q n s = []) := by
            show _ = _; unfold rkFirst; rw [← HX.out]; simp [ssort]
          clear hkk
          have hkk : min (nn : Int) 0 = 0 := by omega
          try simp only [List.length_nil]
          have HH := Lib.hid hh; clear hh hcs hcur
          go_wp2_with (go_at_call 90; (with_reducible refine (sortStable_none _ _ _ _).mono ?_); rintro e w6 ⟨rfl, rfl⟩)
          go_ret
          exact ⟨_, rfl, by rw [HE.out]; exact ⟨rfl, by decide, Or.inl ⟨rfl, _, _, rfl⟩⟩, HB0.out⟩
        · have hlen : 0 < l.length := by
            have : xs.length ≠ 0 := fun e => hx0 (List.length_eq_zero_iff.1 e)
            omega
          have inst : Inhabited (Ix l) := ⟨⟨0, hlen⟩⟩
          have hcell : ∀ (j : Nat), j < xs.toArray.size → wr.cell? ⟨g, 0 + j, none⟩ = some (ixV l xs.toArray[j]!) ∧ wr.frozen? ⟨g, 0 + j, none⟩ = false := by
            intro j hj
            have hj' : j < xs.length := by simpa using hj
            have e1 : cur[j]? = some (ixV l xs[j]) := by
              have := congrArg (fun L : List Value => L[j]?) hcur
              simp only [List.getElem?_take, hj', if_true, List.getElem?_map, List.getElem?_eq_getElem hj', Option.map_some] at this
              simpa using this
            have e2 : xs.toArray[j]! = xs[j] := by simp [hj']
            rw [e2, Nat.zero_add]
            exact ⟨by simp [World.cell?, hh, e1], by simp [World.frozen?, hh]⟩
          have hgB1 : w.heap.size ≠ g := by omega
          have hR : Go.Proofs.Row1 (ixV l) wr g 0 xs.toArray := ⟨ixV_one l, hcell, hgl⟩
          have hrd : ReadsL peV 10 wr (.slice p l.length c) l := Reads.below h0 HB0.out
          have e1 : wr.cell? ⟨w.heap.size, 0, none⟩ = some (.slice p l.length c) := (HB.out.cell (p := ⟨w.heap.size, 0, none⟩) (by show w.heap.size < _; omega)).trans c1
          have e2 : wr.cell? ⟨w.heap.size + 1, 0, none⟩ = some (.int .i64 q) := (HB.out.cell (p := ⟨w.heap.size + 1, 0, none⟩) (by show w.heap.size + 1 < _; omega)).trans c2
          have e3 : wr.cell? ⟨w.heap.size + 2, 0, none⟩ = some (.int .u64 s) := (HB.out.cell (p := ⟨w.heap.size + 2, 0, none⟩) (by show w.heap.size + 2 < _; omega)).trans c3
          have hb : ∀ b o c', Value.slice p l.length c = .slice (some ⟨b, o, none⟩) l.length c' → b ≠ g := by
            intro b o c' hv
            obtain ⟨b', o', hp', _, h5', _⟩ := h3 hlen
            injection hv with hv _ _
            rw [hp'] at hv
            injection hv with hv
            injection hv with hv _ _
            omega
          have hC := rk_cmpB l hl hlen q s hs _ w.heap.size (w.heap.size + 1) (w.heap.size + 2) g xs.toArray.size wr hrd e1 e2 e3 (by omega) (by omega) (by omega) (by omega) (by omega) (by omega) hb inst
          have hS := sortStable_s (ixV l) (fun x y => rkFull (rkGet l x.1) (rkGet l y.1) q s) 91 _ g 0 cap xs.toArray wr (enters_of Try.func91 (by kernel_rfl) rfl) hC hR (by simp; omega)
          rw [show xs.toArray.size = xs.length by simp] at hS
          have HS := Lib.hid hS
          have HL : Hid ((ssort (fun x y : Ix l => decide (rkFull (rkGet l x.1) (rkGet l y.1) q s < 0)) xs).map Subtype.val = ssort (rkLt l q s) (rkIdx l q l.length)) := by
            show _ = _
            exact (ssort_map Subtype.val (fun x y : Ix l => decide (rkFull (rkGet l x.1) (rkGet l y.1) q s < 0)) (rkLt l q s) (fun _ _ => rfl) xs).trans (by rw [HX.out])
          have HW : Hid (WO fun x y : Ix l => decide (rkFull (rkGet l x.1) (rkGet l y.1) q s < 0)) := wo_of (cmp_on (cmp_full q s) (fun x : Ix l => rkGet l x.1))
          have HR := Lib.hid hR
          clear hS hC e1 e2 e3 hb hrd hcell hcur hcs hR h3 h0 c1 c2 c3 hh
          go_wp2_with (go_at_call 90; (with_reducible refine (HS.out).mono ?_); rintro e w6 ⟨rfl, S6⟩)
          go_ret
          exact ⟨_, rfl, first_end l q n s xs g cap nn kk wr w6 HR.out HW.out HL.out S6 hnc HN.out HK.out (by omega), HB0.out.trans (S6.belowB (by omega) HB0.out.size)⟩
end Go.Proofs.Ytdjmejdfcceknaa
/- The contract of rank's reference: who stands first, picked again and again. Conditions: numbers are 64 bits. -/
namespace Go.Proofs.Ytdjmejdfcceknaa
open Go.RowKit
set_option linter.unusedSimpArgs false
set_option linter.unusedVariables false

def usedV (n : Nat) (O : List Nat) : List Value := (List.range n).map fun i => .bool (decide (i ∈ O))
theorem usedV_len (n : Nat) (O : List Nat) : (usedV n O).length = n := by simp [usedV]
theorem usedV_get {n i : Nat} {O : List Nat} (h : i < n) : (usedV n O)[i]? = some (.bool (decide (i ∈ O))) := by unfold usedV; rw [List.getElem?_map, List.getElem?_range h]; rfl
theorem usedV_set {n j : Nat} {O : List Nat} (h : j < n) : (usedV n O).set j (.bool true) = usedV n (O ++ [j]) := by
  apply List.ext_getElem?
  intro i
  rw [List.getElem?_set]
  by_cases hi : i < n
  · rw [usedV_get hi, usedV_get hi]
    by_cases e : j = i
    · subst e; simp [usedV_len, h]
    · rw [if_neg e]; simp [Ne.symm e]
  · rw [List.getElem?_eq_none (by rw [usedV_len]; omega), List.getElem?_eq_none (by rw [usedV_len]; omega)]
    split
    · rw [if_neg (by rw [usedV_len]; omega)]
    · rfl
def atI : Option Nat → Int
  | none => -1
  | some j => j
theorem rkIdx_nodup (l : List Pe) (q : Int) (k : Nat) : (rkIdx l q k).Nodup := List.nodup_range.filter _
theorem rkIdx_lt {l : List Pe} {q : Int} {k i : Nat} (h : i ∈ rkIdx l q k) : i < k := List.mem_range.1 (List.mem_filter.1 h).1
theorem left_snoc (A O : List Nat) (i : Nat) : leftOf (A ++ [i]) O = leftOf A O ++ (if i ∈ O then [] else [i]) := by
  unfold leftOf; rw [List.filter_append]; congr 1
  by_cases h : i ∈ O <;> simp [h]
theorem left_nil (O : List Nat) : leftOf [] O = [] := rfl
theorem counts_in {p : Pe} {q : Int} (h : rkCounts p q = true) : 1 ≤ q ∧ q ≤ 4 := by
  unfold rkCounts at h
  by_cases h1 : q = 1
  · omega
  by_cases h4 : q = 4
  · omega
  by_cases h2 : q = 2
  · omega
  by_cases h3 : q = 3
  · omega
  · rw [if_neg h1, if_neg h4, if_neg h2, if_neg h3] at h; cases h
/-- one round of the picking -/
theorem pick_skip {l : List Pe} {q : Int} {s i : Nat} {O : List Nat} (h : i ∈ O ∨ rkCounts (rkGet l i) q = false) : pickL (rkLt l q s) (leftOf (rkIdx l q (i + 1)) O) = pickL (rkLt l q s) (leftOf (rkIdx l q i) O) := by
  rw [rkIdx_succ]
  by_cases hc : rkCounts (rkGet l i) q = true
  · rcases h with h | h
    · rw [if_pos hc, left_snoc, if_pos h, List.append_nil]
    · rw [h] at hc; cases hc
  · rw [if_neg hc, List.append_nil]
theorem pick_take {l : List Pe} {q : Int} {s i : Nat} {O : List Nat} (h : ¬ i ∈ O) (hc : rkCounts (rkGet l i) q = true) : pickL (rkLt l q s) (leftOf (rkIdx l q (i + 1)) O) = pickStep (rkLt l q s) (pickL (rkLt l q s) (leftOf (rkIdx l q i) O)) i := by
  rw [rkIdx_succ, if_pos hc, left_snoc, if_neg h, pickL_snoc]
theorem pick_in {l : List Pe} {q : Int} {s i j : Nat} {O : List Nat} (h : pickL (rkLt l q s) (leftOf (rkIdx l q i) O) = some j) : j < i := by
  obtain ⟨A, B, h1, _, _⟩ := pickL_some (wo_lt l q s) (leftOf (rkIdx l q i) O).reverse (x := j) (by rw [List.reverse_reverse]; exact h)
  rw [List.reverse_reverse] at h1
  have : j ∈ leftOf (rkIdx l q i) O := by rw [h1]; simp
  exact rkIdx_lt (List.mem_filter.1 this).1
theorem owns_ne {w : World} {base n U : Nat} {v : Value} {xs us : List Value} (h : w.ownsRow base 3 1 v n xs) (hb : BlockIs w U us 4) : v.ownBlock ≠ some U := by
  rcases h.2 with ⟨rfl, _⟩ | ⟨g, cap, cur, rfl, hg, hh, _⟩
  · simp [Value.ownBlock]
  · simp only [Value.ownBlock]
    intro e
    injection e with e
    subst e
    unfold BlockIs at hb
    rw [hh] at hb
    injection hb with hb
    injection hb with _ hb
    exact absurd hb (by decide)
theorem blk_grown {w w' : World} {U : Nat} {us : List Value} {T : TypeId} {o : Option Nat} (h : BlockIs w U us T) (hg : w.grownBy w' o) (ho : o ≠ some U) : BlockIs w' U us T := by
  unfold BlockIs at *
  rw [hg.block U (BlockIs.lt (show BlockIs w U us T from h)) (fun e => ho e.symm)]; exact h
theorem run_make_bools (n : Nat) (hn : n ≤ 1000000) (W : World) : (Instr.makeSlice 61 (.int .i64 n) (.int .i64 n)).run Try.prog W = .ok (.slice (some ⟨W.heap.size, 0, none⟩) n n) (W.alloc (.cells (usedV n []).toArray 4)) := by
  obtain ⟨i, hi, hz0, hz1, hz2⟩ := info_parts (show (Try.prog.info? 4).map (fun i => (i.zero, i.size, i.bytes)) = some (some (.bool false), 1, 1) by kernel_rfl)
  have := run_make (P := Try.prog) W 61 4 i (.bool false) Try.underlying61 hi hz0 .i64 .i64 n n (by omega) (by omega) (by rw [hz2]; omega) (by omega)
  have e1 : ((n : Nat) : Int).toNat = n := by omega
  have e2 : madeCells (Value.bool false).cells (n * 1) = (usedV n []).toArray := by
    apply Array.ext
    · simp [size_madeCells, usedV_len]
    · intro j h1 h2
      simp [madeCells, usedV, Value.cells, Nat.mod_one]
  rw [this, e1, hz1, e2]
theorem natV_one (x : Nat) : ∀ u ∈ [natV x], u.oneCell' = true := by intro u hu; rw [List.mem_singleton.1 hu]; rfl
theorem owns_set {w : World} {base n U i : Nat} {v x : Value} {xs us : List Value} (h : w.ownsRow base 3 1 v n xs) (hb : BlockIs w U us 4) : (w.setCell ⟨U, i, none⟩ x).ownsRow base 3 1 v n xs := by
  have hne := owns_ne h hb
  obtain ⟨h1, h2⟩ := h
  refine ⟨h1, ?_⟩
  rcases h2 with h2 | ⟨g, cap, cur, rfl, hg, hh, r⟩
  · exact Or.inl h2
  · refine Or.inr ⟨g, cap, cur, rfl, hg, ?_, r⟩
    have hgu : g ≠ U := fun e => hne (by rw [e]; rfl)
    rw [← hh]; exact Below.heap_setCell _ _ _ _ (fun e => hgu e)
set_option maxRecDepth 100000 in
set_option maxHeartbeats 16000000 in
theorem ref_first_any (v : Value) (l : List Pe) (hl : ∀ x ∈ l, x.fits) (q n : Int) (hn64 : -9223372036854775808 ≤ n ∧ n ≤ 9223372036854775807) (s : Nat) (hs : s < 18446744073709551616) (w : World) (h : ReadsL peV 10 w v l) (hn : l.length ≤ 1000000) :
    Calls Try.prog 44 #[v, .int .i64 q, .int .i64 n, .int .u64 s] w fun e w' => ∃ r, e = .returned r ∧ Reads w' r (rkFirst l q n s).length 1 ((rkFirst l q n s).map natV) ∧ Below w.heap.size w w' := by
  obtain ⟨hm, p, c, rfl, h3⟩ := pes_open h
  clear h
  have hmk := fun W => run_make_bools l.length hn W
  go_enter Try.func44, Try.ntmps44
  go_upto_region 4 with fail
  clear hmk
  go_name_world W0 hW0
  have hO0 : W0.ownsRow w.heap.size 3 1 (.slice (some ⟨w.heap.size, 0, none⟩) 0 0) 0 [] := by subst hW0; exact (World.ownsRow_made w #[] 0 (Nat.le_refl _) (Nat.zero_le _) rfl).alloc _
  have hU0 : BlockIs W0 (w.heap.size + 1) (usedV l.length []) 4 := by subst hW0; exact BlockIs.newAt' _ _ _ (by simp)
  have b0 : Below w.heap.size w W0 := by subst hW0; (repeat (first | with_reducible assumption | with_reducible exact Below.refl _ _ | with_reducible refine Below.setCell ?_ (by first | omega | (simp; done) | (simp; omega)) _ | with_reducible refine Below.alloc ?_ (by first | omega | (simp; done) | (simp; omega)) _ | with_reducible refine Below.drew ?_ | (with_reducible refine Below.trans ?_ (Below.mono (by with_reducible assumption) (by first | omega | (simp; done) | (simp; omega)))) | (refine Below.trans ?_ (Below.mono (by assumption) (by first | omega | (simp; done) | (simp; omega))))))
  obtain ⟨U, hU⟩ : ∃ U, U = w.heap.size + 1 := ⟨_, rfl⟩
  rw [← hU] at hU0
  rw [← hU]
  have HO0 := Lib.hid hO0; have HU0 := Lib.hid hU0; have HB00 := Lib.hid b0; have HUU := Lib.hid hU
  clear hW0 hO0 hU0 b0 hU
  have z0 : W0.heap.size = w.heap.size + 2 ∨ True := Or.inr trivial
  clear z0
  go_wp2_with fail
  go_loopw [9, 11] (fun o' k' wr => ∃ (k : Nat) (O : List Nat), k ≤ l.length ∧ (k : Int) ≤ max n 0 ∧ k' = .int .i64 k ∧ O.length = k ∧ Hid (wr.ownsRow w.heap.size 3 1 o' k (O.map natV)) ∧ Hid (BlockIs wr U (usedV l.length O) 4) ∧ Hid (Below w.heap.size w wr) ∧ Hid (ssort (rkLt l q s) (rkIdx l q l.length) = O ++ ssort (rkLt l q s) (leftOf (rkIdx l q l.length) O))) (fun _ k' _ => l.length - (intOf k').toNat)
  case atStart => exact ⟨0, [], by omega, by omega, rfl, rfl, HO0.out, HU0.out, HB00.out, (show ssort (rkLt l q s) (rkIdx l q l.length) = [] ++ ssort (rkLt l q s) (leftOf (rkIdx l q l.length) []) by rw [show leftOf (rkIdx l q l.length) [] = rkIdx l q l.length from by unfold leftOf; exact List.filter_eq_self.2 (fun _ _ => by simp)]; rfl)⟩
  case round =>
    obtain ⟨k, O, hk, hkn, rfl, hOl, HO, HU, HB0, HS⟩ := hrel
    obtain ⟨wo, rfl⟩ : ∃ wo : World, wo = wr := ⟨_, rfl⟩
    by_cases hc1 : (k : Int) < n
    · by_cases hc2 : k < l.length
      · have hc2z : (k : Int) < (l.length : Int) := by omega
        obtain ⟨b, o, rfl, h4, h5, h6⟩ := h3 (by omega)
        clear h3
        go_wp2_with fail
        go_loopw [12, 13] (fun a' i' wr => ∃ i : Nat, i ≤ l.length ∧ i' = .int .i64 i ∧ a' = .int .i64 (atI (pickL (rkLt l q s) (leftOf (rkIdx l q i) O))) ∧ Hid (Below wo.heap.size wo wr)) (fun _ i' _ => l.length - (intOf i').toNat)
        case atStart => exact ⟨0, by omega, rfl, rfl, Below.refl _ _⟩
        case round =>
          obtain ⟨i, hi, rfl, rfl, HB2⟩ := hrel
          have HU2 := HU
          by_cases hlt : i < l.length
          · obtain ⟨p, hp⟩ : ∃ p, l[i]? = some p := ⟨_, List.getElem?_eq_getElem hlt⟩
            have hu := fun y => (HU2.out.below (HB2.out.trans (ext_below wr y |>.mono HB2.out.size))).cell (usedV_get (O := O) hlt)
            have q1 : (0 : Int) ≤ (i : Int) := by omega
            have q2 : (i : Int) < (l.length : Int) := by omega
            have K := ((h6 i p hp).below (HB0.out.trans (HB2.out.mono HB0.out.size)) h5).ext (Nat.lt_of_lt_of_le h5 (HB0.out.trans (HB2.out.mono HB0.out.size)).size)
            have x0 := fun y => (K y).1; have x1 := fun y => (K y).2.1; have x2 := fun y => (K y).2.2.1; have x3 := fun y => (K y).2.2.2.1; have x4 := fun y => (K y).2.2.2.2.1; have x5 := fun y => (K y).2.2.2.2.2.1; have x6 := fun y => (K y).2.2.2.2.2.2.1; have x7 := fun y => (K y).2.2.2.2.2.2.2.1; have x8 := fun y => (K y).2.2.2.2.2.2.2.2.1; have x9 := fun y => (K y).2.2.2.2.2.2.2.2.2
            have hg := rkGet_at hp
            have HC := Lib.hid (fun w => ref_counts_any p q w)
            clear K
            by_cases hin : i ∈ O
            · have HR : Hid (pickL (rkLt l q s) (leftOf (rkIdx l q (i + 1)) O) = pickL (rkLt l q s) (leftOf (rkIdx l q i) O)) := pick_skip (Or.inl hin)
              have hu' : ∀ y, (Go.Proofs.Ytdjmejdfcceknaa.ext wr y).cell? ⟨U, i, none⟩ = some (.bool true) := fun y => by rw [hu y, decide_eq_true hin]
              have HA : Hid True := trivial
              clear hu hg hp hin
              go_wp2_with fail
              refine wp_region_ext (by kernel_rfl) (by kernel_rfl) ?_
              repeat (go_big_quiet_step ((first | (go_at_call 39; with_reducible exact qe (HC.out _)) | (go_at_call 41; with_reducible exact qe (HA.out _)))))
              refine wpQuiet_nil ?_
              intro _ hw'
              obtain ⟨gx, hw'''⟩ := hw'
              subst hw'''
              clear hu' x0 x1 x2 x3 x4 x5 x6 x7 x8 x9
              have b8 := below2 HB2.out (ext_below wr gx)
              go_wp2_with fail
              go_roundw
              case rel => exact ⟨i + 1, by omega, by go_num, by rw [HR.out], b8⟩
              case measure => simp [intOf]; omega

            have hu' : ∀ y, (Go.Proofs.Ytdjmejdfcceknaa.ext wr y).cell? ⟨U, i, none⟩ = some (.bool false) := fun y => by rw [hu y, decide_eq_false hin]
            clear hu
            cases hcc : rkCounts p q with
            | false =>
              have HR : Hid (pickL (rkLt l q s) (leftOf (rkIdx l q (i + 1)) O) = pickL (rkLt l q s) (leftOf (rkIdx l q i) O)) := pick_skip (Or.inr (by rw [hg]; exact hcc))
              have HA : Hid True := trivial
              have HC0 := HC.out
              rw [hcc] at HC0
              clear HC
              have HC := Lib.hid HC0
              clear HC0 hg hp hin hcc
              go_wp2_with fail
              refine wp_region_ext (by kernel_rfl) (by kernel_rfl) ?_
              repeat (go_big_quiet_step ((first | (go_at_call 39; with_reducible exact qe (HC.out _)) | (go_at_call 41; with_reducible exact qe (HA.out _)))))
              refine wpQuiet_nil ?_
              intro _ hw'
              obtain ⟨gx, hw'''⟩ := hw'
              subst hw'''
              clear hu' x0 x1 x2 x3 x4 x5 x6 x7 x8 x9
              have b8 := below2 HB2.out (ext_below wr gx)
              go_wp2_with fail
              go_roundw
              case rel => exact ⟨i + 1, by omega, by go_num, by rw [HR.out], b8⟩
              case measure => simp [intOf]; omega

            | true =>
              have HR := Lib.hid (pick_take (s := s) hin (show rkCounts (rkGet l i) q = true by rw [hg]; exact hcc))
              have HC0 := HC.out
              rw [hcc] at HC0
              clear HC
              have HC := Lib.hid HC0
              clear HC0
              cases hpk : pickL (rkLt l q s) (leftOf (rkIdx l q i) O) with
              | none =>
                have hat : atI none = -1 := rfl
                rw [hpk] at HR
                have HA : Hid True := trivial
                simp only [hat]
                clear hg hp hin hcc hpk hat
                go_wp2_with fail
                refine wp_region_ext (by kernel_rfl) (by kernel_rfl) ?_
                repeat (go_big_quiet_step ((first | (go_at_call 39; with_reducible exact qe (HC.out _)) | (go_at_call 41; with_reducible exact qe (HA.out _)))))
                refine wpQuiet_nil ?_
                intro _ hw'
                obtain ⟨gx, hw'''⟩ := hw'
                subst hw'''
                clear hu' x0 x1 x2 x3 x4 x5 x6 x7 x8 x9
                have b8 := below2 HB2.out (ext_below wr gx)
                go_wp2_with fail
                go_roundw
                case rel => exact ⟨i + 1, by omega, by go_num, by rw [HR.out]; rfl, b8⟩
                case measure => simp [intOf]; omega

              | some j =>
                have hji := pick_in hpk
                have hjl : j < l.length := by omega
                obtain ⟨pj, hpj⟩ : ∃ p, l[j]? = some p := ⟨_, List.getElem?_eq_getElem hjl⟩
                have K2 := ((h6 j pj hpj).below (HB0.out.trans (HB2.out.mono HB0.out.size)) h5).ext (Nat.lt_of_lt_of_le h5 (HB0.out.trans (HB2.out.mono HB0.out.size)).size)
                have y0 := fun y => (K2 y).1; have y1 := fun y => (K2 y).2.1; have y2 := fun y => (K2 y).2.2.1; have y3 := fun y => (K2 y).2.2.2.1; have y4 := fun y => (K2 y).2.2.2.2.1; have y5 := fun y => (K2 y).2.2.2.2.2.1; have y6 := fun y => (K2 y).2.2.2.2.2.2.1; have y7 := fun y => (K2 y).2.2.2.2.2.2.2.1; have y8 := fun y => (K2 y).2.2.2.2.2.2.2.2.1; have y9 := fun y => (K2 y).2.2.2.2.2.2.2.2.2
                have q3 : (0 : Int) ≤ (j : Int) := by omega
                have q4 : (j : Int) < (l.length : Int) := by omega
                have hin4 := counts_in hcc
                have hlt2 : rkLt l q s i j = rkAhead p pj q s := by rw [rkAhead_in hin4.1 hin4.2]; unfold rkLt; rw [hg, rkGet_at hpj]
                have hA0 := fun w => ref_ahead_any p pj (hl p (List.mem_of_getElem? hp)) (hl pj (List.mem_of_getElem? hpj)) q s hs w
                rw [hpk] at HR
                have hat : atI (some j) = (j : Int) := rfl
                have hnj : ¬ ((j : Int) < 0) := by omega
                have hnjd : decide ((j : Int) < 0) = false := decide_eq_false hnj
                simp only [hat]
                cases haa : rkAhead p pj q s with
                | true =>
                  have HR2 : Hid (pickL (rkLt l q s) (leftOf (rkIdx l q (i + 1)) O) = some i) := by show _ = _; rw [HR.out]; unfold pickStep; simp only; rw [hlt2, haa]; rfl
                  rw [haa] at hA0
                  have HA := Lib.hid hA0
                  clear hA0 hg hp hin hcc hpk hat K2 hpj hlt2 haa HR
                  go_wp2_with fail
                  refine wp_region_ext (by kernel_rfl) (by kernel_rfl) ?_
                  repeat (go_big_quiet_step ((first | (go_at_call 39; with_reducible exact qe (HC.out _)) | (go_at_call 41; with_reducible exact qe (HA.out _)))))
                  refine wpQuiet_nil ?_
                  intro _ hw'
                  obtain ⟨gx, hw'''⟩ := hw'
                  subst hw'''
                  clear hu' x0 x1 x2 x3 x4 x5 x6 x7 x8 x9 y0 y1 y2 y3 y4 y5 y6 y7 y8 y9
                  have b8 := below2 HB2.out (ext_below wr gx)
                  go_wp2_with fail
                  go_roundw
                  case rel => exact ⟨i + 1, by omega, by go_num, by rw [HR2.out]; rfl, b8⟩
                  case measure => simp [intOf]; omega

                | false =>
                  have HR2 : Hid (pickL (rkLt l q s) (leftOf (rkIdx l q (i + 1)) O) = some j) := by show _ = _; rw [HR.out]; unfold pickStep; simp only; rw [hlt2, haa]; rfl
                  rw [haa] at hA0
                  have HA := Lib.hid hA0
                  clear hA0 hg hp hin hcc hpk hat K2 hpj hlt2 haa HR
                  go_wp2_with fail
                  refine wp_region_ext (by kernel_rfl) (by kernel_rfl) ?_
                  repeat (go_big_quiet_step ((first | (go_at_call 39; with_reducible exact qe (HC.out _)) | (go_at_call 41; with_reducible exact qe (HA.out _)))))
                  refine wpQuiet_nil ?_
                  intro _ hw'
                  obtain ⟨gx, hw'''⟩ := hw'
                  subst hw'''
                  clear hu' x0 x1 x2 x3 x4 x5 x6 x7 x8 x9 y0 y1 y2 y3 y4 y5 y6 y7 y8 y9
                  have b8 := below2 HB2.out (ext_below wr gx)
                  go_wp2_with fail
                  go_roundw
                  case rel => exact ⟨i + 1, by omega, by go_num, by rw [HR2.out]; rfl, b8⟩
                  case measure => simp [intOf]; omega

          · obtain rfl : i = l.length := by omega
            have hB2 := HB0.out.trans (HB2.out.mono HB0.out.size)
            have HB2' := Lib.hid hB2
            have HO2 := Lib.hid (owns_below HO.out HB2.out)
            have HUw := Lib.hid (HU.out.below HB2.out)
            clear hB2
            cases hpk : pickL (rkLt l q s) (leftOf (rkIdx l q l.length) O) with
            | none =>
              have hat : atI none = -1 := rfl
              have hle := pickL_nil hpk
              have HE : Hid (rkFirst l q n s = O) := by
                show _ = _; unfold rkFirst; rw [HS.out, hle]; show (O ++ []).take _ = _; rw [List.append_nil, List.take_of_length_le (by omega)]
              simp only [hat]
              clear hpk hle hat
              go_wp2_with fail
              go_ret
              exact ⟨_, rfl, by rw [HE.out, hOl]; exact owns_reads HO2.out, HB2'.out⟩
            | some j =>
              obtain ⟨hj1, hj2, hj3⟩ := left_pick (wo_lt l q s) (rkIdx_nodup l q l.length) hpk HS.out
              have hjl := rkIdx_lt hj1
              have hat : atI (some j) = (j : Int) := rfl
              have hnj : ¬ ((j : Int) < 0) := by omega
              have q3 : (0 : Int) ≤ (j : Int) := by omega
              have q4 : (j : Int) < (l.length : Int) := by omega
              have hcu := HUw.out.cell (usedV_get (O := O) hjl)
              have hfu := HUw.out.frozen j
              have hUl := HUw.out.lt
              simp only [hat]
              have HS3 := Lib.hid hj3
              clear hpk hat hj1 hj2 hj3
              go_upto_region 15 with fail
              go_name_world W5 hW5
              have hU5 : BlockIs W5 U (usedV l.length (O ++ [j])) 4 := by subst hW5; rw [← usedV_set hjl]; exact HUw.out.set j _
              have hO5 := owns_set (i := j) (x := .bool true) HO2.out HUw.out
              rw [hW5] at hO5
              have hB5 : Below w.heap.size w W5 := by subst hW5; exact HB2'.out.setCell (by show w.heap.size ≤ U; have := HUU.out; omega) _
              clear hW5 hcu hfu
              have HU5 := Lib.hid hU5; have HB5 := Lib.hid hB5
              clear hU5 hB5
              go_wp2_with (at_builtin; refine list_app_reads_g intRow rfl _ _ rfl w.heap.size _ k (O.map natV) rfl (hO5.alloc _) _ 1 [natV j] rfl (reads_one (us := [natV j]) rfl (Nat.succ_pos 0)) (natV_one j) (by omega) (by omega) (by have := HB5.out.size; simp; omega) ?_; intro v' w7 hO7 hg7)
              go_roundw
              case rel => exact ⟨k + 1, O ++ [j], by omega, by omega, by go_num, by simp [hOl], (show World.ownsRow _ _ _ _ _ _ _ by simpa using hO7), blk_grown ((HU5.out).alloc' _) hg7 (owns_ne hO5 HU5.out), below_grown (hO5.alloc _) ((HB5.out).alloc (HB5.out.size) _) (Nat.le_refl _) (by have := HB5.out.size; simp; omega) hg7, HS3.out⟩
              case measure => simp [intOf]; omega
      · have hc2z : ¬ ((k : Int) < (l.length : Int)) := by omega
        have HE : Hid (rkFirst l q n s = O) := by
          have h1 : (ssort (rkLt l q s) (rkIdx l q l.length)).length ≤ l.length := by
            rw [ssort_len]; unfold rkIdx; exact Nat.le_trans (List.length_filter_le _ _) (by simp)
          have h2 := congrArg List.length HS.out
          rw [List.length_append] at h2
          have h4 : ssort (rkLt l q s) (leftOf (rkIdx l q l.length) O) = [] := List.length_eq_zero_iff.1 (by omega)
          show _ = _; unfold rkFirst; rw [HS.out, h4, List.append_nil, List.take_of_length_le (by omega)]
        go_wp2_with fail
        go_ret
        exact ⟨_, rfl, by rw [HE.out, hOl]; exact owns_reads HO.out, HB0.out⟩
    · have HE : Hid (rkFirst l q n s = O) := by
        show _ = _; unfold rkFirst; rw [HS.out, List.take_append_of_le_length (by omega), List.take_of_length_le (by omega)]
      go_wp2_with fail
      go_ret
      exact ⟨_, rfl, by rw [HE.out, hOl]; exact owns_reads HO.out, HB0.out⟩
end Go.Proofs.Ytdjmejdfcceknaa
/- The law of rank, plain: a list turned, and who is among the first. Conditions: ends unlike. -/
namespace Go.Proofs.Ytdjmejdfcceknaa

def rkP (q : Int) (s : Nat) (a b : Pe) : Bool := decide (rkFull a b q s < 0)
theorem wo_P (q : Int) (s : Nat) : WO (rkP q s) := wo_of (cmp_full q s)
theorem rk_total {q : Int} {s : Nat} {a b : Pe} (h : a.en ≠ b.en) : rkP q s a b = true ∨ rkP q s b a = true := by
  have hn := (cmp_full q s).neg a b
  have hz : rkFull a b q s ≠ 0 := by
    intro e
    unfold rkFull at e
    rw [orI_two] at e
    split at e
    · exact h (enCmp_zero e)
    · contradiction
  unfold rkP
  rcases Int.lt_or_le (rkFull a b q s) 0 with h1 | h1
  · exact Or.inl (decide_eq_true h1)
  · exact Or.inr (decide_eq_true (by omega))
theorem range_get (l : List Pe) : (List.range l.length).map (rkGet l) = l := by
  apply List.ext_getElem?
  intro i
  rw [List.getElem?_map]
  by_cases h : i < l.length
  · rw [List.getElem?_range h, List.getElem?_eq_getElem h]
    simp [rkGet, List.getElem?_eq_getElem h]
  · rw [List.getElem?_eq_none (by simp; omega), List.getElem?_eq_none (by omega)]; rfl
theorem idx_map (l : List Pe) (q : Int) : (rkIdx l q l.length).map (rkGet l) = l.filter fun p => rkCounts p q := by
  conv => rhs; rw [← range_get l]
  rw [List.filter_map]; rfl
theorem first_map (l : List Pe) (q n : Int) (s : Nat) : (rkFirst l q n s).map (rkGet l) = (ssort (rkP q s) (l.filter fun p => rkCounts p q)).take n.toNat := by
  unfold rkFirst
  rw [List.map_take, ssort_map (rkGet l) (rkLt l q s) (rkP q s) (fun _ _ => rfl), idx_map]
def Unlike (l : List Pe) : Prop := l.Pairwise fun a b => a.en ≠ b.en
/-- turned: the same peers, one by one -/
theorem first_turned (l : List Pe) (q n : Int) (s k : Nat) (h : Unlike l) : (rkFirst (l.drop k ++ l.take k) q n s).map (rkGet (l.drop k ++ l.take k)) = (rkFirst l q n s).map (rkGet l) := by
  rw [first_map, first_map, List.filter_append]
  congr 1
  conv => rhs; rw [← List.take_append_drop k l, List.filter_append]
  refine ssort_comm (wo_P q s) _ _ (fun x hx y hy => ?_)
  have hu : (l.take k ++ l.drop k).Pairwise fun a b => a.en ≠ b.en := by rw [List.take_append_drop]; exact h
  have := (List.pairwise_append.1 hu).2.2 y (List.mem_filter.1 hy).1 x (List.mem_filter.1 hx).1
  exact (rk_total this).symm
theorem idx_total (l : List Pe) (q : Int) (s : Nat) (h : Unlike l) : (rkIdx l q l.length).Pairwise fun a b => rkLt l q s a b = true ∨ rkLt l q s b a = true := by
  have h1 : (l.filter fun p => rkCounts p q).Pairwise fun a b => a.en ≠ b.en := List.Pairwise.filter _ h
  rw [← idx_map, List.pairwise_map] at h1
  exact h1.imp fun {a b} hab => rk_total hab
theorem filter_range (l : List Pe) (f : Pe → Bool) : (l.filter f).length = ((List.range l.length).filter fun y => f (rkGet l y)).length := by
  conv => lhs; rw [← range_get l]
  rw [List.filter_map, List.length_map]; rfl
/-- who is among the first -/
theorem first_mem (l : List Pe) (q n : Int) (s i : Nat) (h : Unlike l) (hi : i < l.length) : (i ∈ rkFirst l q n s) ↔ (rkCounts (rkGet l i) q && decide (((rkN l (rkGet l i) q s l.length : Nat) : Int) < n)) = true := by
  by_cases hc : rkCounts (rkGet l i) q = true
  · have hx : i ∈ rkIdx l q l.length := List.mem_filter.2 ⟨List.mem_range.2 hi, hc⟩
    have e : (rkIdx l q l.length).filter (fun y => rkLt l q s y i) = (List.range l.length).filter fun y => rkCounts (rkGet l y) q && rkLt l q s y i := by
      unfold rkIdx; rw [List.filter_filter]; congr 1; funext y; rw [Bool.and_comm]
    have e2 : ((List.range l.length).filter fun y => rkCounts (rkGet l y) q && rkLt l q s y i).length = rkN l (rkGet l i) q s l.length := by
      unfold rkN
      rw [List.take_length]
      rw [filter_range l]
      congr 1
      apply List.filter_congr
      intro y _
      cases hy : rkCounts (rkGet l y) q with
      | false => simp
      | true =>
        have := counts_in hy
        rw [rkAhead_in this.1 this.2]; rfl
    unfold rkFirst
    rw [first_iff (wo_lt l q s) (idx_total l q s h) n.toNat hx, e, e2, hc, Bool.true_and, decide_eq_true_eq]
    omega
  · constructor
    · intro hm
      unfold rkFirst at hm
      have := (ssort_mem _).1 (List.mem_of_mem_take hm)
      exact absurd (List.mem_filter.1 this).2 hc
    · intro hm
      rw [Bool.and_eq_true] at hm
      exact absurd hm.1 hc
end Go.Proofs.Ytdjmejdfcceknaa
/- The laws of rank. No condition. -/
namespace Go.Proofs.Ytdjmejdfcceknaa
open Go.RowKit
set_option linter.unusedSimpArgs false
set_option linter.unusedVariables false

theorem ints_same (v u : Value) (L : List Nat) (w : World) (hv : Reads w v L.length 1 (L.map natV)) (hu : Reads w u L.length 1 (L.map natV)) :
    Calls Try.prog 42 #[v, u] w fun e w' => e = .returned (.bool true) ∧ Below w.heap.size w w' := by
  obtain ⟨_, hn, a, cap, rfl, ho⟩ := hv.open
  obtain ⟨_, _, a2, cap2, rfl, ho2⟩ := hu.open
  clear hv hu
  go_enter Try.func42, Try.ntmps42
  go_wp2_with fail
  go_loopw [5] (fun i wr => ∃ (k : Nat), k ≤ L.length ∧ i = .int .i64 k ∧ Below w.heap.size w wr) (fun i _ => L.length - (intOf i).toNat)
  case atStart => exact ⟨0, Nat.zero_le _, rfl, Below.refl _ _⟩
  case round =>
    obtain ⟨k, hk, rfl, hb⟩ := hrel
    by_cases hk2 : k < L.length
    · obtain ⟨b, o, rfl, hc, hlt, hx⟩ := ho (by omega)
      obtain ⟨b2, o2, rfl, hc2, hlt2, hx2⟩ := ho2 (by omega)
      have g1 := hx k (natV L[k]) (by rw [List.getElem?_map, List.getElem?_eq_getElem hk2]; rfl)
      have g2 := hx2 k (natV L[k]) (by rw [List.getElem?_map, List.getElem?_eq_getElem hk2]; rfl)
      generalize L[k] = x at g1 g2
      unfold natV at g1 g2
      have hz := hb.size
      have f1 := fun y => (ext_cell wr y (p := ⟨b, o + k, none⟩) (by show b < _; omega)).trans (keep hb hlt g1)
      have f2 := fun y => (ext_cell wr y (p := ⟨b2, o2 + k, none⟩) (by show b2 < _; omega)).trans (keep hb hlt2 g2)
      have q1 : (0 : Int) ≤ (k : Int) := by omega
      have q2 : (k : Int) < (L.length : Int) := by omega
      clear ho ho2 hx hx2 g1 g2
      go_wp2_with fail
      refine wp_region_ext (by kernel_rfl) (by kernel_rfl) ?_
      repeat (go_big_quiet_step (fail))
      refine wpQuiet_nil ?_
      intro _ hw'
      obtain ⟨gx, hw''⟩ := hw'
      subst hw''
      clear f1 f2
      have b8 := below2 hb (ext_below wr gx)
      go_wp2_with fail
      go_roundw
      case rel => exact ⟨k + 1, by omega, by go_num, b8⟩
      case measure => simp [intOf]; omega
    · go_wp2_with fail
      go_ret
      exact ⟨rfl, hb⟩
theorem at18_any (port ping : Int) (w : World) : Calls Try.prog 87 #[.int .i64 port, .int .i64 ping] w fun e w' => e = .returned (.agg #[.bool ((⟨⟨⟨false, 0, 1⟩, port⟩, true, 0, 0, 0, ping, 0⟩ : Pe)).en.ad.v6, .int .u64 ((⟨⟨⟨false, 0, 1⟩, port⟩, true, 0, 0, 0, ping, 0⟩ : Pe)).en.ad.hi, .int .u64 ((⟨⟨⟨false, 0, 1⟩, port⟩, true, 0, 0, 0, ping, 0⟩ : Pe)).en.ad.lo, .int .i64 ((⟨⟨⟨false, 0, 1⟩, port⟩, true, 0, 0, 0, ping, 0⟩ : Pe)).en.port, .bool ((⟨⟨⟨false, 0, 1⟩, port⟩, true, 0, 0, 0, ping, 0⟩ : Pe)).came, .int .i64 ((⟨⟨⟨false, 0, 1⟩, port⟩, true, 0, 0, 0, ping, 0⟩ : Pe)).since, .int .i64 ((⟨⟨⟨false, 0, 1⟩, port⟩, true, 0, 0, 0, ping, 0⟩ : Pe)).pts, .int .i64 ((⟨⟨⟨false, 0, 1⟩, port⟩, true, 0, 0, 0, ping, 0⟩ : Pe)).at_, .int .i64 ((⟨⟨⟨false, 0, 1⟩, port⟩, true, 0, 0, 0, ping, 0⟩ : Pe)).ping, .int .i64 ((⟨⟨⟨false, 0, 1⟩, port⟩, true, 0, 0, 0, ping, 0⟩ : Pe)).work]) ∧ Below w.heap.size w w' := by
  go_enter Try.func87, Try.ntmps87
  go_wp2_with fail
  refine bodyPost_ret (v := .agg #[.bool ((⟨⟨⟨false, 0, 1⟩, port⟩, true, 0, 0, 0, ping, 0⟩ : Pe)).en.ad.v6, .int .u64 ((⟨⟨⟨false, 0, 1⟩, port⟩, true, 0, 0, 0, ping, 0⟩ : Pe)).en.ad.hi, .int .u64 ((⟨⟨⟨false, 0, 1⟩, port⟩, true, 0, 0, 0, ping, 0⟩ : Pe)).en.ad.lo, .int .i64 ((⟨⟨⟨false, 0, 1⟩, port⟩, true, 0, 0, 0, ping, 0⟩ : Pe)).en.port, .bool ((⟨⟨⟨false, 0, 1⟩, port⟩, true, 0, 0, 0, ping, 0⟩ : Pe)).came, .int .i64 ((⟨⟨⟨false, 0, 1⟩, port⟩, true, 0, 0, 0, ping, 0⟩ : Pe)).since, .int .i64 ((⟨⟨⟨false, 0, 1⟩, port⟩, true, 0, 0, 0, ping, 0⟩ : Pe)).pts, .int .i64 ((⟨⟨⟨false, 0, 1⟩, port⟩, true, 0, 0, 0, ping, 0⟩ : Pe)).at_, .int .i64 ((⟨⟨⟨false, 0, 1⟩, port⟩, true, 0, 0, 0, ping, 0⟩ : Pe)).ping, .int .i64 ((⟨⟨⟨false, 0, 1⟩, port⟩, true, 0, 0, 0, ping, 0⟩ : Pe)).work]) (by simp [results, Try.results87, go_sem, *]) rfl ⟨rfl, ?_⟩
  (repeat (first | with_reducible assumption | with_reducible exact Below.refl _ _ | with_reducible refine Below.setCell ?_ (by first | omega | (simp; done) | (simp; omega)) _ | with_reducible refine Below.alloc ?_ (by first | omega | (simp; done) | (simp; omega)) _ | with_reducible refine Below.drew ?_ | (with_reducible refine Below.trans ?_ (Below.mono (by with_reducible assumption) (by first | omega | (simp; done) | (simp; omega)))) | (refine Below.trans ?_ (Below.mono (by assumption) (by first | omega | (simp; done) | (simp; omega))))))
def a18 : List Pe := [⟨⟨⟨false, 0, 1⟩, 1⟩, true, 0, 0, 0, 0, 0⟩, ⟨⟨⟨false, 0, 1⟩, 2⟩, true, 0, 0, 0, 5, 0⟩, ⟨⟨⟨false, 0, 1⟩, 3⟩, true, 0, 0, 0, 3, 0⟩]
theorem a18_fits : ∀ x ∈ a18, x.fits := by
  intro x hx
  unfold a18 at hx
  simp only [List.mem_cons, List.not_mem_nil, or_false] at hx
  rcases hx with rfl | rfl | rfl <;> (unfold Pe.fits Ad.fits; decide)
theorem a18_first : rkFirst a18 2 9 7 = [2, 1] := by decide +kernel
theorem a18_rank : rkRank a18 1 2 7 = 1 := by decide +kernel
theorem reads_blk {α : Type} {f : α → List Value} {n : Nat} {w : World} {B : Nat} {T : TypeId} {l : List α} (hB : BlockIs w B (l.flatMap f) T) (hl : 0 < l.length) (hm : l.length ≤ 9223372036854775807) (hn : (l.flatMap f).length = l.length * n) : ReadsL f n w (.slice (some ⟨B, 0, none⟩) l.length l.length) l :=
  ⟨hn, hm, Or.inr ⟨hl, B, 0, l.length, rfl, Nat.le_refl _, hB.lt, fun j x hj => by rw [Nat.zero_add]; exact hB.cell hj⟩⟩
set_option maxRecDepth 100000 in
set_option maxHeartbeats 8000000 in
theorem awake18_any (w : World) : Calls Try.prog 37 #[] w fun e w' => e = .returned (.bool true) ∧ Below w.heap.size w w' := by
  have A1 := Lib.hid (fun w => at18_any 1 0 w)
  have A2 := Lib.hid (fun w => at18_any 2 5 w)
  have A3 := Lib.hid (fun w => at18_any 3 3 w)
  go_enter Try.func37, Try.ntmps37
  go_upto_region 2 with (first | (go_at_call 87; (with_reducible refine (A1.out _).mono ?_); rintro e w1 ⟨rfl, b1⟩) | (go_at_call 87; (with_reducible refine (A2.out _).mono ?_); rintro e w2 ⟨rfl, b2⟩) | (go_at_call 87; (with_reducible refine (A3.out _).mono ?_); rintro e w3 ⟨rfl, b3⟩))
  go_name_world W4 hW4
  have hB : BlockIs W4 w3.heap.size (a18.flatMap peV) 34 := by subst hW4; exact BlockIs.new w3 (a18.flatMap peV) _
  have b123 := below2 (below2 b1 b2) b3
  have b4 : Below w.heap.size w W4 := by subst hW4; exact b123.alloc b123.size _
  clear hW4 b1 b2 b3 b123
  have hR : ReadsL peV 10 W4 (.slice (some ⟨w3.heap.size, 0, none⟩) 3 3) a18 := reads_blk hB (by decide) (by decide) (by decide)
  have hF := rk_first_any _ a18 a18_fits 2 9 (by omega) 7 (by omega) W4 hR (by decide)
  rw [a18_first, show ((7 : Nat) : Int) = 7 from rfl] at hF
  have HF := Lib.hid hF
  clear hF
  go_upto_region 3 with (go_at_call 43; (with_reducible refine (HF.out).mono ?_); rintro e w5 ⟨r, rfl, hr, b5⟩)
  obtain ⟨_, _, a, c, rfl, ho⟩ := hr.open
  obtain ⟨b, o, rfl, hc, hlt, hx⟩ := ho (by decide)
  have g1 : w5.cell? ⟨b, o, none⟩ = some (.int .i64 2) := hx 0 (natV 2) rfl
  have g2 : w5.cell? ⟨b, o + 1, none⟩ = some (.int .i64 1) := hx 1 (natV 1) rfl
  have hc : 2 ≤ c := hc
  simp only [List.length_cons, List.length_nil]
  have hR5 := Reads.below hR b5
  have hB5 := hB.below b5
  have hK := rk_rank_any _ a18 a18_fits 1 2 7 (by omega) w5 hR5 (by decide)
  rw [a18_rank, show ((7 : Nat) : Int) = 7 from rfl] at hK
  have HK := Lib.hid hK
  have HC : Hid (∀ w, Calls Try.prog 38 #[.agg #[.bool false, .int .u64 0, .int .u64 1, .int .i64 1, .bool true, .int .i64 0, .int .i64 0, .int .i64 0, .int .i64 0, .int .i64 0], .int .i64 2] w fun e w' => e = .returned (.bool false) ∧ Below w.heap.size w w') := fun w => rk_counts_any ⟨⟨⟨false, 0, 1⟩, 1⟩, true, 0, 0, 0, 0, 0⟩ 2 w
  have b5' := below2 b4 b5
  clear hK hr ho hx hR hR5 b5 b4 hB HF A1 A2 A3
  go_wp2_with (first | (go_at_call 45; (with_reducible refine (HK.out).mono ?_); rintro e w6 ⟨rfl, b6⟩; have hB6 := hB5.below b6; have x0 : w6.cell? ⟨w3.heap.size, 0, none⟩ = some (.bool false) := hB6.cell rfl; have x1 : w6.cell? ⟨w3.heap.size, 1, none⟩ = some (.int .u64 0) := hB6.cell rfl; have x2 : w6.cell? ⟨w3.heap.size, 2, none⟩ = some (.int .u64 1) := hB6.cell rfl; have x3 : w6.cell? ⟨w3.heap.size, 3, none⟩ = some (.int .i64 1) := hB6.cell rfl; have x4 : w6.cell? ⟨w3.heap.size, 4, none⟩ = some (.bool true) := hB6.cell rfl; have x5 : w6.cell? ⟨w3.heap.size, 5, none⟩ = some (.int .i64 0) := hB6.cell rfl; have x6 : w6.cell? ⟨w3.heap.size, 6, none⟩ = some (.int .i64 0) := hB6.cell rfl; have x7 : w6.cell? ⟨w3.heap.size, 7, none⟩ = some (.int .i64 0) := hB6.cell rfl; have x8 : w6.cell? ⟨w3.heap.size, 8, none⟩ = some (.int .i64 0) := hB6.cell rfl; have x9 : w6.cell? ⟨w3.heap.size, 9, none⟩ = some (.int .i64 0) := hB6.cell rfl; have b7 := below2 b5' b6) | (go_at_call 38; (with_reducible refine (HC.out _).mono ?_); rintro e w8 ⟨rfl, b8⟩))
  go_ret
  exact ⟨rfl, below2 b7 b8⟩
structure As where
  by_ : Int
  n : Int
  at_ : Int
  secret : Nat
def asV (a : As) : List Value := [.int .i64 a.by_, .int .i64 a.n, .int .i64 a.at_, .int .u64 a.secret]
theorem asV_len (a : As) : (asV a).length = 4 := rfl
def As.fits (a : As) : Prop := (-9223372036854775808 ≤ a.n ∧ a.n ≤ 9223372036854775807) ∧ a.secret < 18446744073709551616
set_option maxRecDepth 100000 in
set_option maxHeartbeats 16000000 in
theorem rankTells_any (v : Value) (l : List Pe) (a : As) (w : World) (h : ReadsL peV 10 w v l) (hl : ∀ x ∈ l, x.fits) (hf : a.fits) :
    Calls Try.prog 7 #[v, .agg #[.int .i64 a.by_, .int .i64 a.n, .int .i64 a.at_, .int .u64 a.secret]] w fun e w' => e = .returned (.bool true) ∧ Below w.heap.size w w' := by
  have h0 := h
  obtain ⟨hm, p, c, rfl, h3⟩ := pes_open h
  clear h
  have HA := Lib.hid (fun w => awake18_any w)
  rcases Int.lt_or_le 30 (l.length : Int) with hlen | hlen
  · go_enter Try.func7, Try.ntmps7
    go_wp2_with (go_at_call 37; (with_reducible refine (HA.out _).mono ?_); rintro e w2 ⟨rfl, b2⟩; obtain ⟨c2, f2⟩ := bcell b2; have z2 := b2.size; (try simp at z2); clear c2 f2)
    go_ret
    refine ⟨rfl, ?_⟩
    (repeat (first | with_reducible assumption | with_reducible exact Below.refl _ _ | with_reducible refine Below.setCell ?_ (by first | omega | (simp; done) | (simp; omega)) _ | with_reducible refine Below.alloc ?_ (by first | omega | (simp; done) | (simp; omega)) _ | with_reducible refine Below.drew ?_ | (with_reducible refine Below.trans ?_ (Below.mono (by with_reducible assumption) (by first | omega | (simp; done) | (simp; omega)))) | (refine Below.trans ?_ (Below.mono (by assumption) (by first | omega | (simp; done) | (simp; omega))))))
  · go_enter Try.func7, Try.ntmps7
    go_upto_region 4 with fail
    go_name_world WW0 hWW0
    have e00 : WW0.cell? ⟨w.heap.size, 0, none⟩ = some (.int .i64 a.by_) := by subst hWW0; (first | (simp (disch := first | omega | (simp; omega)) [World.cell?_alloc_past, World.frozen?_alloc_past, *]; done) | (simp (disch := first | omega | (simp; omega)) [World.cell?_setCell_far, World.cell?_alloc_past, *]; done) | (simp (disch := first | omega | (simp; omega)) [World.cell?_alloc_past, World.frozen?_alloc_past, *]; rfl) | (simp (disch := first | omega | (simp; omega)) [World.cell?_setCell_far, World.cell?_alloc_past, *]; rfl) | (simp [go_sem, *]; done) | (simp (disch := first | omega | (simp; omega) | (simp [go_sem, *]; done)) [go_sem, World.cell?_setCell_far, World.cell?_alloc_past, World.frozen?_alloc_past, *]; done))
    have e01 : WW0.cell? ⟨w.heap.size, 1, none⟩ = some (.int .i64 a.n) := by subst hWW0; (first | (simp (disch := first | omega | (simp; omega)) [World.cell?_alloc_past, World.frozen?_alloc_past, *]; done) | (simp (disch := first | omega | (simp; omega)) [World.cell?_setCell_far, World.cell?_alloc_past, *]; done) | (simp (disch := first | omega | (simp; omega)) [World.cell?_alloc_past, World.frozen?_alloc_past, *]; rfl) | (simp (disch := first | omega | (simp; omega)) [World.cell?_setCell_far, World.cell?_alloc_past, *]; rfl) | (simp [go_sem, *]; done) | (simp (disch := first | omega | (simp; omega) | (simp [go_sem, *]; done)) [go_sem, World.cell?_setCell_far, World.cell?_alloc_past, World.frozen?_alloc_past, *]; done))
    have e02 : WW0.cell? ⟨w.heap.size, 2, none⟩ = some (.int .i64 a.at_) := by subst hWW0; (first | (simp (disch := first | omega | (simp; omega)) [World.cell?_alloc_past, World.frozen?_alloc_past, *]; done) | (simp (disch := first | omega | (simp; omega)) [World.cell?_setCell_far, World.cell?_alloc_past, *]; done) | (simp (disch := first | omega | (simp; omega)) [World.cell?_alloc_past, World.frozen?_alloc_past, *]; rfl) | (simp (disch := first | omega | (simp; omega)) [World.cell?_setCell_far, World.cell?_alloc_past, *]; rfl) | (simp [go_sem, *]; done) | (simp (disch := first | omega | (simp; omega) | (simp [go_sem, *]; done)) [go_sem, World.cell?_setCell_far, World.cell?_alloc_past, World.frozen?_alloc_past, *]; done))
    have e03 : WW0.cell? ⟨w.heap.size, 3, none⟩ = some (.int .u64 a.secret) := by subst hWW0; (first | (simp (disch := first | omega | (simp; omega)) [World.cell?_alloc_past, World.frozen?_alloc_past, *]; done) | (simp (disch := first | omega | (simp; omega)) [World.cell?_setCell_far, World.cell?_alloc_past, *]; done) | (simp (disch := first | omega | (simp; omega)) [World.cell?_alloc_past, World.frozen?_alloc_past, *]; rfl) | (simp (disch := first | omega | (simp; omega)) [World.cell?_setCell_far, World.cell?_alloc_past, *]; rfl) | (simp [go_sem, *]; done) | (simp (disch := first | omega | (simp; omega) | (simp [go_sem, *]; done)) [go_sem, World.cell?_setCell_far, World.cell?_alloc_past, World.frozen?_alloc_past, *]; done))
    have bw0 : Below w.heap.size w WW0 := by subst hWW0; (repeat (first | assumption | exact Below.refl _ _ | refine Below.setCell ?_ (by first | omega | (simp; done) | (simp; omega)) _ | refine Below.alloc ?_ (by first | omega | (simp; done) | (simp; omega)) _ | refine Below.drew ?_ | (refine Below.trans ?_ (Below.mono (by assumption) (by first | omega | (simp; done) | (simp; omega))))))
    have zw0 : _ := bw0.size
    have lW00 : w.heap.size < WW0.heap.size := by subst hWW0; first | omega | (simp; done) | (simp; omega)
    clear hWW0
    have HB00 := Lib.hid bw0
    go_loopw [5] (fun i' wr => ∃ k : Nat, k ≤ l.length ∧ i' = .int .i64 k ∧ Hid (Below WW0.heap.size WW0 wr)) (fun i' _ => l.length - (intOf i').toNat)
    case atStart => exact ⟨0, by omega, rfl, Below.refl _ _⟩
    case round =>
      obtain ⟨k, hk, rfl, HB⟩ := hrel
      have hwr := HB.out.size
      have e0 := keep HB.out lW00 e00
      have e1 := keep HB.out lW00 e01
      have e2 := keep HB.out lW00 e02
      have e3 := keep HB.out lW00 e03
      have hlw : w.heap.size < wr.heap.size := by omega
      have hbw := bw0.trans (HB.out.mono bw0.size)
      by_cases hlt : k < l.length
      · obtain ⟨p, hp⟩ : ∃ p, l[k]? = some p := ⟨_, List.getElem?_eq_getElem hlt⟩
        obtain ⟨b, o, rfl, h4, h5, h6⟩ := h3 (by omega)
        have f0 := fun y => (ext_cell wr y (p := ⟨w.heap.size, 0, none⟩) hlw).trans e0
        have f1 := fun y => (ext_cell wr y (p := ⟨w.heap.size, 1, none⟩) hlw).trans e1
        have f2 := fun y => (ext_cell wr y (p := ⟨w.heap.size, 2, none⟩) hlw).trans e2
        have f3 := fun y => (ext_cell wr y (p := ⟨w.heap.size, 3, none⟩) hlw).trans e3
        have K := ((h6 k p hp).below hbw h5).ext (Nat.lt_of_lt_of_le h5 hbw.size)
        have x0 := fun y => (K y).1; have x1 := fun y => (K y).2.1; have x2 := fun y => (K y).2.2.1; have x3 := fun y => (K y).2.2.2.1; have x4 := fun y => (K y).2.2.2.2.1; have x5 := fun y => (K y).2.2.2.2.2.1; have x6 := fun y => (K y).2.2.2.2.2.2.1; have x7 := fun y => (K y).2.2.2.2.2.2.2.1; have x8 := fun y => (K y).2.2.2.2.2.2.2.2.1; have x9 := fun y => (K y).2.2.2.2.2.2.2.2.2
        have q1 : (0 : Int) ≤ (k : Int) := by omega
        have q2 : (k : Int) < (l.length : Int) := by omega
        have hc := fun w => rk_counts_any p a.by_ w
        have hc2 := fun w => ref_counts_any p a.by_ w
        generalize rkCounts p a.by_ = cc at hc hc2
        have HC := Lib.hid hc; have HC2 := Lib.hid hc2
        clear hc hc2 K e0 e1 e2 e3
        rcases Nat.eq_zero_or_pos k with hk0 | hk0
        · have hk0z : ¬ ((0 : Int) < (k : Int)) := by omega
          have hk0d : decide ((0 : Int) < (k : Int)) = false := decide_eq_false hk0z
          have hk0e : decide (0 < k) = false := decide_eq_false (by omega)
          have HAh : Hid True := trivial
          have HAh2 : Hid True := trivial
          have HK0 := Lib.hid hk0
          clear hp h6 h3 hk0 hk0z
          cases cc with
          | false =>
            go_wp2_with fail
            refine wp_region_ext (by kernel_rfl) (by kernel_rfl) ?_
            repeat (go_big_quiet_step ((first | (go_at_call 38; with_reducible exact qe (HC.out _)) | (go_at_call 39; with_reducible exact qe (HC2.out _)) | (go_at_call 40; with_reducible exact qe (HAh.out _)) | (go_at_call 41; with_reducible exact qe (HAh2.out _)))))
            refine wpQuiet_nil ?_
            intro _ hw'
            obtain ⟨gx, hw''⟩ := hw'
            subst hw''
            clear x0 x1 x2 x3 x4 x5 x6 x7 x8 x9 f0 f1 f2 f3
            go_wp2_with fail
            go_roundw
            case rel => exact ⟨k + 1, by omega, by go_num, HB.out.trans ((ext_below wr gx).mono HB.out.size)⟩
            case measure => simp [intOf]; omega
          | true =>
            go_wp2_with fail
            refine wp_region_ext (by kernel_rfl) (by kernel_rfl) ?_
            repeat (go_big_quiet_step ((first | (go_at_call 38; with_reducible exact qe (HC.out _)) | (go_at_call 39; with_reducible exact qe (HC2.out _)) | (go_at_call 40; with_reducible exact qe (HAh.out _)) | (go_at_call 41; with_reducible exact qe (HAh2.out _)))))
            refine wpQuiet_nil ?_
            intro _ hw'
            obtain ⟨gx, hw''⟩ := hw'
            subst hw''
            clear x0 x1 x2 x3 x4 x5 x6 x7 x8 x9 f0 f1 f2 f3
            go_wp2_with fail
            go_roundw
            case rel => exact ⟨k + 1, by omega, by go_num, HB.out.trans ((ext_below wr gx).mono HB.out.size)⟩
            case measure => simp [intOf]; omega
        · have hk0z : (0 : Int) < (k : Int) := by omega
          have hk0d : decide ((0 : Int) < (k : Int)) = true := decide_eq_true hk0z
          obtain ⟨j, hj⟩ : ∃ j, k = j + 1 := ⟨k - 1, by omega⟩
          obtain ⟨pj, hpj⟩ : ∃ p, l[j]? = some p := ⟨_, List.getElem?_eq_getElem (show j < l.length by omega)⟩
          have K2 := ((h6 j pj hpj).below hbw h5).ext (Nat.lt_of_lt_of_le h5 hbw.size)
          have y0 := fun y => (K2 y).1; have y1 := fun y => (K2 y).2.1; have y2 := fun y => (K2 y).2.2.1; have y3 := fun y => (K2 y).2.2.2.1; have y4 := fun y => (K2 y).2.2.2.2.1; have y5 := fun y => (K2 y).2.2.2.2.2.1; have y6 := fun y => (K2 y).2.2.2.2.2.2.1; have y7 := fun y => (K2 y).2.2.2.2.2.2.2.1; have y8 := fun y => (K2 y).2.2.2.2.2.2.2.2.1; have y9 := fun y => (K2 y).2.2.2.2.2.2.2.2.2
          have zk : (k : Int) - 1 = (j : Int) := by omega
          have q3 : (0 : Int) ≤ (j : Int) := by omega
          have q4 : (j : Int) < (l.length : Int) := by omega
          have ha := fun w => rk_ahead_any pj p (hl pj (List.mem_of_getElem? hpj)) (hl p (List.mem_of_getElem? hp)) a.by_ a.secret hf.2 w
          have ha2 := fun w => ref_ahead_any pj p (hl pj (List.mem_of_getElem? hpj)) (hl p (List.mem_of_getElem? hp)) a.by_ a.secret hf.2 w
          generalize rkAhead pj p a.by_ a.secret = aa at ha ha2
          have HAh := Lib.hid ha; have HAh2 := Lib.hid ha2
          have HJ := Lib.hid hj
          clear ha ha2 K2 hp hpj h6 h3 hj
          cases cc with
          | false =>
            cases aa with
            | false =>
              go_wp2_with fail
              refine wp_region_ext (by kernel_rfl) (by kernel_rfl) ?_
              repeat (go_big_quiet_step ((first | (go_at_call 38; with_reducible exact qe (HC.out _)) | (go_at_call 39; with_reducible exact qe (HC2.out _)) | (go_at_call 40; with_reducible exact qe (HAh.out _)) | (go_at_call 41; with_reducible exact qe (HAh2.out _)))))
              refine wpQuiet_nil ?_
              intro _ hw'
              obtain ⟨gx, hw''⟩ := hw'
              subst hw''
              clear x0 x1 x2 x3 x4 x5 x6 x7 x8 x9 y0 y1 y2 y3 y4 y5 y6 y7 y8 y9 f0 f1 f2 f3
              go_wp2_with fail
              go_roundw
              case rel => exact ⟨k + 1, by omega, by go_num, HB.out.trans ((ext_below wr gx).mono HB.out.size)⟩
              case measure => simp [intOf]; omega
            | true =>
              go_wp2_with fail
              refine wp_region_ext (by kernel_rfl) (by kernel_rfl) ?_
              repeat (go_big_quiet_step ((first | (go_at_call 38; with_reducible exact qe (HC.out _)) | (go_at_call 39; with_reducible exact qe (HC2.out _)) | (go_at_call 40; with_reducible exact qe (HAh.out _)) | (go_at_call 41; with_reducible exact qe (HAh2.out _)))))
              refine wpQuiet_nil ?_
              intro _ hw'
              obtain ⟨gx, hw''⟩ := hw'
              subst hw''
              clear x0 x1 x2 x3 x4 x5 x6 x7 x8 x9 y0 y1 y2 y3 y4 y5 y6 y7 y8 y9 f0 f1 f2 f3
              go_wp2_with fail
              go_roundw
              case rel => exact ⟨k + 1, by omega, by go_num, HB.out.trans ((ext_below wr gx).mono HB.out.size)⟩
              case measure => simp [intOf]; omega
          | true =>
            cases aa with
            | false =>
              go_wp2_with fail
              refine wp_region_ext (by kernel_rfl) (by kernel_rfl) ?_
              repeat (go_big_quiet_step ((first | (go_at_call 38; with_reducible exact qe (HC.out _)) | (go_at_call 39; with_reducible exact qe (HC2.out _)) | (go_at_call 40; with_reducible exact qe (HAh.out _)) | (go_at_call 41; with_reducible exact qe (HAh2.out _)))))
              refine wpQuiet_nil ?_
              intro _ hw'
              obtain ⟨gx, hw''⟩ := hw'
              subst hw''
              clear x0 x1 x2 x3 x4 x5 x6 x7 x8 x9 y0 y1 y2 y3 y4 y5 y6 y7 y8 y9 f0 f1 f2 f3
              go_wp2_with fail
              go_roundw
              case rel => exact ⟨k + 1, by omega, by go_num, HB.out.trans ((ext_below wr gx).mono HB.out.size)⟩
              case measure => simp [intOf]; omega
            | true =>
              go_wp2_with fail
              refine wp_region_ext (by kernel_rfl) (by kernel_rfl) ?_
              repeat (go_big_quiet_step ((first | (go_at_call 38; with_reducible exact qe (HC.out _)) | (go_at_call 39; with_reducible exact qe (HC2.out _)) | (go_at_call 40; with_reducible exact qe (HAh.out _)) | (go_at_call 41; with_reducible exact qe (HAh2.out _)))))
              refine wpQuiet_nil ?_
              intro _ hw'
              obtain ⟨gx, hw''⟩ := hw'
              subst hw''
              clear x0 x1 x2 x3 x4 x5 x6 x7 x8 x9 y0 y1 y2 y3 y4 y5 y6 y7 y8 y9 f0 f1 f2 f3
              go_wp2_with fail
              go_roundw
              case rel => exact ⟨k + 1, by omega, by go_num, HB.out.trans ((ext_below wr gx).mono HB.out.size)⟩
              case measure => simp [intOf]; omega
      · obtain rfl : k = l.length := by omega
        have hRr : ReadsL peV 10 wr (.slice p l.length c) l := Reads.below h0 hbw
        have hF := fun w' (b : Below wr.heap.size wr w') => rk_first_any _ l hl a.by_ a.n hf.1 a.secret hf.2 w' (Reads.below hRr b) (by omega)
        have hF2 := fun w' (b : Below wr.heap.size wr w') => ref_first_any _ l hl a.by_ a.n hf.1 a.secret hf.2 w' (Reads.below hRr b) (by omega)
        have hK := fun w' (b : Below wr.heap.size wr w') => rk_rank_any _ l hl a.at_ a.by_ a.secret hf.2 w' (Reads.below hRr b) (by omega)
        have hK2 := fun w' (b : Below wr.heap.size wr w') => ref_rank_any _ l hl a.at_ a.by_ a.secret hf.2 w' (Reads.below hRr b) (by omega)
        generalize rkFirst l a.by_ a.n a.secret = F at *
        generalize rkRank l a.at_ a.by_ a.secret = rr at *
        have hrr : (rr == rr) = true := by simp
        have HF := Lib.hid hF; have HF2 := Lib.hid hF2; have HK := Lib.hid hK; have HK2 := Lib.hid hK2
        clear hF hF2 hK hK2 hRr h0 h3 e00 e01 e02 e03
        go_wp2_with fail
        go_region_held3 (fun w' => w'.cell? ⟨w.heap.size, 0, none⟩ = some (.int .i64 a.by_) ∧ w'.cell? ⟨w.heap.size, 1, none⟩ = some (.int .i64 a.n) ∧ w'.cell? ⟨w.heap.size, 2, none⟩ = some (.int .i64 a.at_) ∧ w'.cell? ⟨w.heap.size, 3, none⟩ = some (.int .u64 a.secret)) (first | go_keep | (simp (disch := omega) [*])) (first | (go_at_call 43; (with_reducible refine (HF.out _ (by (repeat (first | with_reducible assumption | with_reducible exact Below.refl _ _ | with_reducible refine Below.setCell ?_ (by first | omega | (simp; done) | (simp; omega)) _ | with_reducible refine Below.alloc ?_ (by first | omega | (simp; done) | (simp; omega)) _ | with_reducible refine Below.drew ?_ | (with_reducible refine Below.trans ?_ (Below.mono (by with_reducible assumption) (by first | omega | (simp; done) | (simp; omega)))) | (refine Below.trans ?_ (Below.mono (by assumption) (by first | omega | (simp; done) | (simp; omega)))))))).mono ?_); rintro e w1 ⟨r1, rfl, o1, b1⟩; have z1 := b1.size; (try simp at z1); have d1 := fun o => (bcell b1).1 w.heap.size o (by first | omega | (simp; done) | (simp; omega))) | (go_at_call 44; (with_reducible refine (HF2.out _ (by (repeat (first | with_reducible assumption | with_reducible exact Below.refl _ _ | with_reducible refine Below.setCell ?_ (by first | omega | (simp; done) | (simp; omega)) _ | with_reducible refine Below.alloc ?_ (by first | omega | (simp; done) | (simp; omega)) _ | with_reducible refine Below.drew ?_ | (with_reducible refine Below.trans ?_ (Below.mono (by with_reducible assumption) (by first | omega | (simp; done) | (simp; omega)))) | (refine Below.trans ?_ (Below.mono (by assumption) (by first | omega | (simp; done) | (simp; omega)))))))).mono ?_); rintro e w2 ⟨r2, rfl, o2, b2⟩; have z2 := b2.size; (try simp at z2); have d2 := fun o => (bcell b2).1 w.heap.size o (by first | omega | (simp; done) | (simp; omega))) | (go_at_call 42; refine (ints_same r1 r2 F _ (Reads.below o1 b2) o2).mono ?_; rintro e w3 ⟨rfl, b3⟩; have z3 := b3.size; (try simp at z3); have d3 := fun o => (bcell b3).1 w.heap.size o (by first | omega | (simp; done) | (simp; omega))) | (go_at_call 45; (with_reducible refine (HK.out _ (by (repeat (first | with_reducible assumption | with_reducible exact Below.refl _ _ | with_reducible refine Below.setCell ?_ (by first | omega | (simp; done) | (simp; omega)) _ | with_reducible refine Below.alloc ?_ (by first | omega | (simp; done) | (simp; omega)) _ | with_reducible refine Below.drew ?_ | (with_reducible refine Below.trans ?_ (Below.mono (by with_reducible assumption) (by first | omega | (simp; done) | (simp; omega)))) | (refine Below.trans ?_ (Below.mono (by assumption) (by first | omega | (simp; done) | (simp; omega)))))))).mono ?_); rintro e w4 ⟨rfl, b4⟩; have z4 := b4.size; (try simp at z4); have d4 := fun o => (bcell b4).1 w.heap.size o (by first | omega | (simp; done) | (simp; omega))) | (go_at_call 46; (with_reducible refine (HK2.out _ (by (repeat (first | with_reducible assumption | with_reducible exact Below.refl _ _ | with_reducible refine Below.setCell ?_ (by first | omega | (simp; done) | (simp; omega)) _ | with_reducible refine Below.alloc ?_ (by first | omega | (simp; done) | (simp; omega)) _ | with_reducible refine Below.drew ?_ | (with_reducible refine Below.trans ?_ (Below.mono (by with_reducible assumption) (by first | omega | (simp; done) | (simp; omega)))) | (refine Below.trans ?_ (Below.mono (by assumption) (by first | omega | (simp; done) | (simp; omega)))))))).mono ?_); rintro e w5 ⟨rfl, b5⟩; have z5 := b5.size; (try simp at z5); have d5 := fun o => (bcell b5).1 w.heap.size o (by first | omega | (simp; done) | (simp; omega))) | (go_at_call 37; (with_reducible refine (HA.out _).mono ?_); rintro e w6 ⟨rfl, b6⟩; have z6 := b6.size; (try simp at z6); have d6 := fun o => (bcell b6).1 w.heap.size o (by first | omega | (simp; done) | (simp; omega))))
        all_goals
          go_wp2_with fail
          go_ret
          refine ⟨rfl, ?_⟩
          refine Below.trans hbw (Below.mono (B := wr.heap.size) ?_ hbw.size)
          (repeat (first | with_reducible assumption | with_reducible exact Below.refl _ _ | with_reducible refine Below.setCell ?_ (by first | omega | (simp; done) | (simp; omega)) _ | with_reducible refine Below.alloc ?_ (by first | omega | (simp; done) | (simp; omega)) _ | with_reducible refine Below.drew ?_ | (with_reducible refine Below.trans ?_ (Below.mono (by with_reducible assumption) (by first | omega | (simp; done) | (simp; omega)))) | (refine Below.trans ?_ (Below.mono (by assumption) (by first | omega | (simp; done) | (simp; omega))))))
end Go.Proofs.Ytdjmejdfcceknaa
