/- Texts put together: RankD, RankE, RankF, RankT. No condition. -/
import Derived.Test.YtppmjbnhghaffaaQ64ba80ewyirv
import Derived.Test.YtppmjbnhghaffaaSortN
import Derived.Test.YtppmjbnhghaffaaQa26fa3zkgjzq
import Derived.Test.YtppmjbnhghaffaaAppend
import Derived.Test.YtppmjbnhghaffaaQ668131zdrcan
/- The contract of rank.First: the places of those that count, as they stand, cut. Conditions: numbers are 64 bits. -/
namespace Go.Proofs.Ytppmjbnhghaffaa
open Go.RowKit

def zPe : Pe := ⟨⟨⟨false, 0, 0⟩, 0⟩, false, 0, 0, 0, 0, 0⟩
def rkGet (l : List Pe) (i : Nat) : Pe := l[i]?.getD zPe
def rkLt (l : List Pe) (q : Int) (s : Nat) (i k : Nat) : Bool := decide (rkFull (rkGet l i) (rkGet l k) q s < 0)
def rkIdx (l : List Pe) (q : Int) (k : Nat) : List Nat := (List.range k).filter fun i => rkCounts (rkGet l i) q
def rkFirst (l : List Pe) (q n : Int) (s : Nat) : List Nat := (ssort (rkLt l q s) (rkIdx l q l.length)).take n.toNat
abbrev Ix (l : List Pe) := {i : Nat // i < l.length}
def ixV (l : List Pe) (i : Ix l) : Value := .int .i64 (i.1 : Int)
def natV (i : Nat) : Value := .int .i64 (i : Int)
theorem rkGet_at {l : List Pe} {i : Nat} {p : Pe} (h : l[i]? = some p) : rkGet l i = p := by unfold rkGet; rw [h]; rfl
theorem rkIdx_succ (l : List Pe) (q : Int) (k : Nat) : rkIdx l q (k + 1) = rkIdx l q k ++ (if rkCounts (rkGet l k) q = true then [k] else []) := by
  unfold rkIdx; rw [List.range_succ, List.filter_append]; congr 1
  simp only [List.filter_cons, List.filter_nil]
theorem sput_map {α β : Type} (f : α → β) (lt : α → α → Bool) (lt' : β → β → Bool) (h : ∀ x y, lt x y = lt' (f x) (f y)) (x : α) : ∀ l : List α, (sput lt x l).map f = sput lt' (f x) (l.map f)
  | [] => rfl
  | y :: r => by
    simp only [sput, List.map_cons, h x y]
    split
    · rfl
    · rw [List.map_cons, sput_map f lt lt' h x r]
theorem ssort_map {α β : Type} (f : α → β) (lt : α → α → Bool) (lt' : β → β → Bool) (h : ∀ x y, lt x y = lt' (f x) (f y)) (l : List α) : (ssort lt l).map f = ssort lt' (l.map f) := by
  rw [← List.reverse_reverse l]
  induction l.reverse with
  | nil => rfl
  | cons x r ih => rw [List.reverse_cons, ssort_snoc, sput_map f lt lt' h, ih, List.map_append, List.map_cons, List.map_nil, ssort_snoc]
/-- the order that First sorts by, a weak one -/
theorem cmp_full (q : Int) (s : Nat) : Cmp fun a b : Pe => rkFull a b q s := by
  have h : Cmp fun a b : Pe => rkCmp a b q s := by
    unfold rkCmp
    by_cases h1 : q = 1
    · simp only [if_pos h1]
      have e : (fun a b : Pe => cmpI (rkKey b s) (rkKey a s)) = fun a b : Pe => cmpI (-(rkKey a s : Int)) (-(rkKey b s : Int)) := by
        funext a b; unfold cmpI; repeat' split
        all_goals omega
      rw [e]; exact cmp_on cmp_int (fun a : Pe => -(rkKey a s : Int))
    simp only [if_neg h1]
    by_cases h2 : q = 2
    · simp only [if_pos h2]; exact cmp_on cmp_int (fun a : Pe => a.ping)
    simp only [if_neg h2]
    by_cases h3 : q = 3
    · simp only [if_pos h3]
      have e : (fun a b : Pe => cmpI b.work a.work) = fun a b : Pe => cmpI (-a.work) (-b.work) := by
        funext a b; unfold cmpI; repeat' split
        all_goals omega
      rw [e]; exact cmp_on cmp_int (fun a : Pe => -a.work)
    simp only [if_neg h3]
    by_cases h4 : q = 4
    · simp only [if_pos h4]; exact cmp_on cmp_int (fun a : Pe => a.since)
    · simp only [if_neg h4]; exact ⟨fun _ _ => rfl, fun _ _ _ _ _ => by omega⟩
  have h2 := cmp_then h (cmp_on cmp_en (fun a : Pe => a.en))
  have e : (fun a b : Pe => rkFull a b q s) = _ := funext fun a => funext fun b => orI_two (rkCmp a b q s) (enCmp a.en b.en)
  rw [e]; exact h2
theorem wo_of {α : Type} {c : α → α → Int} (C : Cmp c) : WO fun a b => decide (c a b < 0) := by
  constructor
  · intro a b d h1 h2
    have h1 : c a b < 0 := by simpa using h1
    have h2 : c b d < 0 := by simpa using h2
    exact decide_eq_true (C.le_eq h1 (show c b d ≤ 0 by omega))
  · intro a b d h1 h2
    have h1 : ¬ c a b < 0 := by simpa using h1
    have h2 : ¬ c b d < 0 := by simpa using h2
    have := C.trans d b a (by rw [C.neg b d]; omega) (by rw [C.neg a b]; omega)
    exact decide_eq_false (by rw [C.neg d a]; omega)
  · intro a b h1
    have h1 : c a b < 0 := by simpa using h1
    exact decide_eq_false (by rw [C.neg a b]; omega)
theorem wo_lt (l : List Pe) (q : Int) (s : Nat) : WO (rkLt l q s) := wo_of (cmp_on (cmp_full q s) (rkGet l))
end Go.Proofs.Ytppmjbnhghaffaa
/- The contract of rank.First: the places of those that count, as they stand, cut. Conditions: numbers are 64 bits. -/
namespace Go.Proofs.Ytppmjbnhghaffaa
open Go.Shelf Go.RowKit Go.Lib Go.Sort

/-- what the sort's order wants: in every world of the sort the closure answers -/
theorem rk_cmpB (l : List Pe) (hl : ∀ x ∈ l, x.fits) (hn : 0 < l.length) (q : Int) (s : Nat) (hs : s < 18446744073709551616) (v : Value) (B1 B2 B3 g : Nat) (n : Nat) (w : World) (h : ReadsL peV 10 w v l)
    (c1 : w.cell? ⟨B1, 0, none⟩ = some v) (c2 : w.cell? ⟨B2, 0, none⟩ = some (.int .i64 q)) (c3 : w.cell? ⟨B3, 0, none⟩ = some (.int .u64 s)) (l1 : B1 < w.heap.size) (l2 : B2 < w.heap.size) (l3 : B3 < w.heap.size) (n1 : B1 ≠ g) (n2 : B2 ≠ g) (n3 : B3 ≠ g)
    (hb : ∀ b o c, v = .slice (some ⟨b, o, none⟩) l.length c → b ≠ g) (inst : Inhabited (Ix l)) :
    CmpB Try.prog 198 #[.pointer (some ⟨B1, 0, none⟩), .pointer (some ⟨B2, 0, none⟩), .pointer (some ⟨B3, 0, none⟩)] (ixV l) (fun x y => rkFull (rkGet l x.1) (rkGet l y.1) q s) g 0 n w := by
  intro W dk hsz hS x y
  have hx : l[x.1]? = some (rkGet l x.1) := by unfold rkGet; rw [List.getElem?_eq_getElem x.2]; rfl
  have hy : l[y.1]? = some (rkGet l y.1) := by unfold rkGet; rw [List.getElem?_eq_getElem y.2]; rfl
  have hz := hS.size
  have hR : ReadsL peV 10 W v l := by
    obtain ⟨h1, h2, h3⟩ := h
    refine ⟨h1, h2, ?_⟩
    rcases h3 with ⟨h0, _⟩ | ⟨hp, b, o, c, hv, hc, hlt, hxs⟩
    · omega
    · refine Or.inr ⟨hp, b, o, c, hv, hc, by omega, fun j x hj => ?_⟩
      rw [hS.other (p := ⟨b, o + j, none⟩) (hb b o c hv) hlt]; exact hxs j x hj
  exact rk_closure v l hl q s hs B1 B2 B3 x.1 y.1 _ _ hx hy W hR ((hS.other (p := ⟨B1, 0, none⟩) n1 l1).trans c1) ((hS.other (p := ⟨B2, 0, none⟩) n2 l2).trans c2) ((hS.other (p := ⟨B3, 0, none⟩) n3 l3).trans c3) (by omega) (by omega) (by omega)
theorem ixV_one (l : List Pe) : OneCell (ixV l) := fun _ => rfl
theorem reads_take {w : World} {v : Value} {n : Nat} {xs : List Value} {b : Nat} {c k : Nat} (h : Reads w v n 1 xs) (hv : v = .slice (some ⟨b, 0, none⟩) n c) (hk : k ≤ n) : Reads w (.slice (some ⟨b, 0, none⟩) k c) k 1 (xs.take k) := by
  subst hv
  obtain ⟨h1, h2, h3⟩ := h
  refine ⟨by rw [List.length_take]; omega, by omega, ?_⟩
  rcases h3 with ⟨h0, a', c', hv⟩ | ⟨hp, b', o, c', hv, hc, hlt, hx⟩
  · exact Or.inl ⟨by omega, _, _, by rw [show k = 0 by omega]⟩
  · injection hv with e1 e2 e3
    injection e1 with e1
    injection e1 with e4 e5
    subst e4 e5 e3
    by_cases hk0 : k = 0
    · exact Or.inl ⟨hk0, _, _, by rw [hk0]⟩
    · exact Or.inr ⟨by omega, b, 0, c, rfl, by omega, hlt, fun j x hj => by
        rw [List.getElem?_take] at hj
        split at hj
        · exact hx j x hj
        · cases hj⟩
theorem first_end (l : List Pe) (q n : Int) (s : Nat) (xs : List (Ix l)) (g cap nn kk : Nat) (wr w6 : World) [inst : Inhabited (Ix l)] (R : Go.Proofs.Row1 (ixV l) wr g 0 xs.toArray)
    (W : WO fun x y : Ix l => decide (rkFull (rkGet l x.1) (rkGet l y.1) q s < 0)) (HL : (ssort (fun x y : Ix l => decide (rkFull (rkGet l x.1) (rkGet l y.1) q s < 0)) xs).map Subtype.val = ssort (rkLt l q s) (rkIdx l q l.length))
    (S : SB (ixV l) wr g 0 (stableA (ltOf fun x y : Ix l => rkFull (rkGet l x.1) (rkGet l y.1) q s) xs.toArray) w6) (hc : xs.length ≤ cap) (hn : nn = n.toNat) (hk : kk = min nn xs.length) (hx : xs.length ≤ 9223372036854775807) :
    Reads w6 (.slice (some ⟨g, 0, none⟩) kk cap) (rkFirst l q n s).length 1 ((rkFirst l q n s).map natV) := by
  have hD : (stableA (ltOf fun x y : Ix l => rkFull (rkGet l x.1) (rkGet l y.1) q s) xs.toArray).toList = ssort (fun x y : Ix l => decide (rkFull (rkGet l x.1) (rkGet l y.1) q s < 0)) xs := by
    have := stableA_is (lt := ltOf fun x y : Ix l => rkFull (rkGet l x.1) (rkGet l y.1) q s) W xs.toArray
    rw [this]; rfl
  generalize stableA (ltOf fun x y : Ix l => rkFull (rkGet l x.1) (rkGet l y.1) q s) xs.toArray = D at *
  have hs : D.size = xs.length := by
    rw [← Array.length_toList, hD, ssort_len]
  have hm : D.toList.map (ixV l) = (ssort (rkLt l q s) (rkIdx l q l.length)).map natV := by
    rw [hD, ← HL, List.map_map]; rfl
  have hlen : (ssort (rkLt l q s) (rkIdx l q l.length)).length = xs.length := by rw [← HL, List.length_map, ssort_len]
  have hr : Reads w6 (.slice (some ⟨g, 0, none⟩) xs.length cap) xs.length 1 ((ssort (rkLt l q s) (rkIdx l q l.length)).map natV) := by
    refine ⟨by rw [List.length_map, hlen]; omega, hx, ?_⟩
    rcases Nat.eq_zero_or_pos xs.length with h0 | h0
    · exact Or.inl ⟨h0, _, _, by rw [h0]⟩
    · refine Or.inr ⟨h0, g, 0, cap, rfl, hc, Nat.lt_of_lt_of_le R.hblk S.size, fun j x hj => ?_⟩
      rw [← hm] at hj
      have hjl : j < D.size := by
        have := (List.getElem?_eq_some_iff.1 hj).1
        simpa using this
      have := S.c1 R (by simp [hs]) j hjl
      rw [this]
      rw [List.getElem?_map] at hj
      have e : D[j]! = D.toList[j]?.getD default := arr_get D j
      rw [e]
      rw [List.getElem?_eq_getElem (by simpa using hjl)] at hj ⊢
      simpa using hj
  have hk2 : (rkFirst l q n s).length = kk := by
    unfold rkFirst; rw [List.length_take, hlen, hk, hn]
  have ht := reads_take hr rfl (k := kk) (by omega)
  rw [hk2]
  have e : (rkFirst l q n s).map natV = ((ssort (rkLt l q s) (rkIdx l q l.length)).map natV).take kk := by
    unfold rkFirst
    rw [← List.map_take]
    congr 1
    rw [hk, ← hn]
    rcases Nat.le_total nn xs.length with h | h
    · rw [Nat.min_eq_left h]
    · rw [Nat.min_eq_right h, List.take_of_length_le (by omega), List.take_of_length_le (by omega)]
  rw [e]; exact ht
set_option maxRecDepth 100000 in
set_option maxHeartbeats 8000000 in
theorem rk_first_any (v : Value) (l : List Pe) (hl : ∀ x ∈ l, x.fits) (q n : Int) (hn64 : -9223372036854775808 ≤ n ∧ n ≤ 9223372036854775807) (s : Nat) (hs : s < 18446744073709551616) (w : World) (h : ReadsL peV 10 w v l) (hn : l.length ≤ 1000000) :
    Calls Try.prog 191 #[v, .int .i64 q, .int .i64 n, .int .u64 s] w fun e w' => ∃ r, e = .returned r ∧ Reads w' r (rkFirst l q n s).length 1 ((rkFirst l q n s).map natV) ∧ Below w.heap.size w w' := by
  have h0 := h
  obtain ⟨hm, p, c, rfl, h3⟩ := pes_open h
  clear h
  go_enter Try.func191, Try.ntmps191
  go_upto_region 2 with fail
  go_name_world W0 hW0
  have z0 : W0.heap.size = w.heap.size + 3 := by subst hW0; simp
  have c1 : W0.cell? ⟨w.heap.size, 0, none⟩ = some (.slice p l.length c) := by subst hW0; (first | (simp [go_sem, *]; done) | (simp (disch := first | omega | (simp; omega) | (simp [go_sem, *]; done)) [go_sem, World.cell?_setCell_far, World.cell?_alloc_past, World.frozen?_alloc_past, *]; done))
  have c2 : W0.cell? ⟨w.heap.size + 1, 0, none⟩ = some (.int .i64 q) := by subst hW0; (first | (simp [go_sem, *]; done) | (simp (disch := first | omega | (simp; omega) | (simp [go_sem, *]; done)) [go_sem, World.cell?_setCell_far, World.cell?_alloc_past, World.frozen?_alloc_past, *]; done))
  have c3 : W0.cell? ⟨w.heap.size + 2, 0, none⟩ = some (.int .u64 s) := by subst hW0; (first | (simp [go_sem, *]; done) | (simp (disch := first | omega | (simp; omega) | (simp [go_sem, *]; done)) [go_sem, World.cell?_setCell_far, World.cell?_alloc_past, World.frozen?_alloc_past, *]; done))
  have b0 : Below w.heap.size w W0 := by subst hW0; (repeat (first | with_reducible assumption | with_reducible exact Below.refl _ _ | with_reducible refine Below.setCell ?_ (by first | omega | (simp; done) | (simp; omega)) _ | with_reducible refine Below.alloc ?_ (by first | omega | (simp; done) | (simp; omega)) _ | with_reducible refine Below.drew ?_ | (with_reducible refine Below.trans ?_ (Below.mono (by with_reducible assumption) (by first | omega | (simp; done) | (simp; omega)))) | (refine Below.trans ?_ (Below.mono (by assumption) (by first | omega | (simp; done) | (simp; omega))))))
  clear hW0
  go_wp2_with fail
  go_loopw [9, 14] (fun at' i' wr => ∃ (k : Nat) (xs : List (Ix l)), k ≤ l.length ∧ i' = .int .i64 k ∧ Hid (wr.ownsRow W0.heap.size 3 1 at' xs.length (xs.map (ixV l))) ∧ Hid (Below W0.heap.size W0 wr) ∧ Hid (xs.map Subtype.val = rkIdx l q k)) (fun _ i' _ => l.length - (intOf i').toNat)
  case atStart => exact ⟨0, [], by omega, rfl, ⟨rfl, Or.inl ⟨rfl, rfl⟩⟩, Below.refl _ _, rfl⟩
  case round =>
    obtain ⟨k, xs, hk, rfl, HO, HB, HX⟩ := hrel
    have hzb := HB.out.size
    have hxl : xs.length ≤ k := by
      have := congrArg List.length HX.out
      rw [List.length_map] at this
      rw [this]; unfold rkIdx
      exact Nat.le_trans (List.length_filter_le _ _) (by simp)
    by_cases hlt : k < l.length
    · obtain ⟨p, hp⟩ : ∃ p, l[k]? = some p := ⟨_, List.getElem?_eq_getElem hlt⟩
      obtain ⟨b, o, rfl, h4, h5, h6⟩ := h3 (by omega)
      have hX := rkIdx_succ l q k
      rw [rkGet_at hp] at hX
      have hc := fun w => rk_counts_any p q w
      have K := (h6 k p hp).below (b0.trans (HB.out.mono b0.size)) h5
      have d2 : wr.cell? ⟨w.heap.size + 1, 0, none⟩ = some (.int .i64 q) := (HB.out.cell (p := ⟨w.heap.size + 1, 0, none⟩) (by show w.heap.size + 1 < _; omega)).trans c2
      have q1 : (0 : Int) ≤ (k : Int) := by omega
      have q2 : (k : Int) < (l.length : Int) := by omega
      generalize rkCounts p q = cc at *
      have HXX := Lib.hid hX; have HC := Lib.hid hc; have HL := Lib.hid hlt
      clear hX hc hp
      obtain ⟨k0, k1, k2, k3, k4, k5, k6, k7, k8, k9⟩ := K
      go_upto_region 5 with (refine list_store_blk rfl 66 _ _ rfl (wr.heap.size) _ _ 66 (BlockIs.newAt' _ _ _ (by simp)) rfl rfl (by kernel_rfl) rfl (by simp [Value.oneCell']) wr.heap.size wr (by (repeat (first | with_reducible assumption | with_reducible exact Below.refl _ _ | with_reducible refine Below.setCell ?_ (by first | omega | (simp; done) | (simp; omega)) _ | with_reducible refine Below.alloc ?_ (by first | omega | (simp; done) | (simp; omega)) _ | with_reducible refine Below.drew ?_ | (with_reducible refine Below.trans ?_ (Below.mono (by with_reducible assumption) (by first | omega | (simp; done) | (simp; omega)))) | (refine Below.trans ?_ (Below.mono (by assumption) (by first | omega | (simp; done) | (simp; omega))))))) (Nat.le_refl _) ?_; intro W5 hP hoth hsz b5; clear hoth)
      clear k0 k1 k2 k3 k4 k5 k6 k7 k8 k9
      have d5 : W5.cell? ⟨w.heap.size + 1, 0, none⟩ = some (.int .i64 q) := (b5.cell (p := ⟨w.heap.size + 1, 0, none⟩) (by show w.heap.size + 1 < _; omega)).trans d2
      have hO5 := owns_below HO.out b5
      have hB5 : Below W0.heap.size W0 W5 := HB.out.trans (b5.mono hzb)
      have x0 := hP.cell (i := 0) rfl
      have x1 := hP.cell (i := 1) rfl
      have x2 := hP.cell (i := 2) rfl
      have x3 := hP.cell (i := 3) rfl
      have x4 := hP.cell (i := 4) rfl
      have x5 := hP.cell (i := 5) rfl
      have x6 := hP.cell (i := 6) rfl
      have x7 := hP.cell (i := 7) rfl
      have x8 := hP.cell (i := 8) rfl
      have x9 := hP.cell (i := 9) rfl
      have xf := hP.frozen
      have xl := hP.lt
      clear d2
      cases cc with
      | false =>
        have HO5 := Lib.hid hO5; have HB5 := Lib.hid hB5
        clear hO5 hB5
        go_wp2_with (go_at_call 119; (with_reducible refine (HC.out _).mono ?_); rintro e w6 ⟨rfl, b6⟩)
        go_roundw
        case rel => exact ⟨k + 1, xs, by omega, by go_num, owns_below HO5.out b6, HB5.out.trans (b6.mono HB5.out.size), by show _ = _; rw [HXX.out, HX.out]; simp⟩
        case measure => simp [intOf]; omega
      | true =>
        have HO5 := Lib.hid hO5; have HB5 := Lib.hid hB5
        clear hO5 hB5
        go_upto_region 6 with (go_at_call 119; (with_reducible refine (HC.out _).mono ?_); rintro e w6 ⟨rfl, b6⟩)
        have hO6 := owns_below HO5.out b6
        have hB6 : Below W0.heap.size W0 w6 := HB5.out.trans (b6.mono HB5.out.size)
        have hz6 := hB6.size
        go_wp2_with (at_builtin; refine list_app intRow rfl _ _ rfl W0.heap.size _ xs.length (xs.map (ixV l)) rfl hO6 [.int .i64 k] rfl rfl rfl (by omega) (by omega) hz6 W0.heap.size W0 hB6 (Nat.le_refl _) ?_; intro v' w7 hO7 hB7)
        go_roundw
        case rel => exact ⟨k + 1, xs ++ [⟨k, HL.out⟩], by omega, by go_num, (show World.ownsRow _ _ _ _ _ _ _ by simpa [ixV] using hO7), hB7, by show _ = _; rw [HXX.out, List.map_append, HX.out]; simp⟩
        case measure => simp [intOf]; omega
    · obtain rfl : k = l.length := by omega
      obtain ⟨nn, hnn⟩ : ∃ nn : Nat, (max n 0) = (nn : Int) := ⟨n.toNat, by omega⟩
      have hnt : nn = n.toNat := by omega
      obtain ⟨kk, hkk⟩ : ∃ kk : Nat, min (nn : Int) (xs.length : Int) = (kk : Int) := ⟨min nn xs.length, by omega⟩
      have hkn : kk = min nn xs.length := by omega
      have HB0 := Lib.hid (b0.trans (HB.out.mono b0.size))
      have HN := Lib.hid hnt; have HK := Lib.hid hkn
      clear hnt hkn
      rcases HO.out.2 with ⟨rfl, hx0⟩ | ⟨g, cap, cur, rfl, hg, hh, hnc, hcm, hcs, hcur⟩
      · have e0 : xs = [] := List.length_eq_zero_iff.1 hx0
        subst e0
        have hkk0 : kk = 0 := by have := HK.out; simp at this; exact this
        subst hkk0
        have HE : Hid (rkFirst l q n s = []) := by
          show _ = _; unfold rkFirst; rw [← HX.out]; simp [ssort]
        clear hkk
        have hkk : min (nn : Int) 0 = 0 := by omega
        try simp only [List.length_nil]
        go_wp2_with (go_at_call 197; (with_reducible refine (sortStable_none _ _ _ _).mono ?_); rintro e w6 ⟨rfl, rfl⟩)
        go_ret
        exact ⟨_, rfl, by rw [HE.out]; exact ⟨rfl, by decide, Or.inl ⟨rfl, _, _, rfl⟩⟩, HB0.out⟩
      · rw [Nat.mul_one] at hcs hcur
        obtain ⟨g, rfl⟩ : ∃ g', g = g' := ⟨g, rfl⟩
        have hgl : g < wr.heap.size := by
          rcases Nat.lt_or_ge g wr.heap.size with h | h
          · exact h
          · rw [Array.getElem?_eq_none h] at hh; cases hh
        by_cases hx0 : xs = []
        · subst hx0
          have hkk0 : kk = 0 := by have := HK.out; simp at this; exact this
          subst hkk0
          have HE : Hid (rkFirst l q n s = []) := by
            show _ = _; unfold rkFirst; rw [← HX.out]; simp [ssort]
          clear hkk
          have hkk : min (nn : Int) 0 = 0 := by omega
          try simp only [List.length_nil]
          have HH := Lib.hid hh; clear hh hcs hcur
          go_wp2_with (go_at_call 197; (with_reducible refine (sortStable_none _ _ _ _).mono ?_); rintro e w6 ⟨rfl, rfl⟩)
          go_ret
          exact ⟨_, rfl, by rw [HE.out]; exact ⟨rfl, by decide, Or.inl ⟨rfl, _, _, rfl⟩⟩, HB0.out⟩
        · have hlen : 0 < l.length := by
            have : xs.length ≠ 0 := fun e => hx0 (List.length_eq_zero_iff.1 e)
            omega
          have inst : Inhabited (Ix l) := ⟨⟨0, hlen⟩⟩
          have hcell : ∀ (j : Nat), j < xs.toArray.size → wr.cell? ⟨g, 0 + j, none⟩ = some (ixV l xs.toArray[j]!) ∧ wr.frozen? ⟨g, 0 + j, none⟩ = false := by
            intro j hj
            have hj' : j < xs.length := by simpa using hj
            have e1 : cur[j]? = some (ixV l xs[j]) := by
              have := congrArg (fun L : List Value => L[j]?) hcur
              simp only [List.getElem?_take, hj', if_true, List.getElem?_map, List.getElem?_eq_getElem hj', Option.map_some] at this
              simpa using this
            have e2 : xs.toArray[j]! = xs[j] := by simp [hj']
            rw [e2, Nat.zero_add]
            exact ⟨by simp [World.cell?, hh, e1], by simp [World.frozen?, hh]⟩
          have hgB1 : w.heap.size ≠ g := by omega
          have hR : Go.Proofs.Row1 (ixV l) wr g 0 xs.toArray := ⟨ixV_one l, hcell, hgl⟩
          have hrd : ReadsL peV 10 wr (.slice p l.length c) l := Reads.below h0 HB0.out
          have e1 : wr.cell? ⟨w.heap.size, 0, none⟩ = some (.slice p l.length c) := (HB.out.cell (p := ⟨w.heap.size, 0, none⟩) (by show w.heap.size < _; omega)).trans c1
          have e2 : wr.cell? ⟨w.heap.size + 1, 0, none⟩ = some (.int .i64 q) := (HB.out.cell (p := ⟨w.heap.size + 1, 0, none⟩) (by show w.heap.size + 1 < _; omega)).trans c2
          have e3 : wr.cell? ⟨w.heap.size + 2, 0, none⟩ = some (.int .u64 s) := (HB.out.cell (p := ⟨w.heap.size + 2, 0, none⟩) (by show w.heap.size + 2 < _; omega)).trans c3
          have hb : ∀ b o c', Value.slice p l.length c = .slice (some ⟨b, o, none⟩) l.length c' → b ≠ g := by
            intro b o c' hv
            obtain ⟨b', o', hp', _, h5', _⟩ := h3 hlen
            injection hv with hv _ _
            rw [hp'] at hv
            injection hv with hv
            injection hv with hv _ _
            omega
          have hC := rk_cmpB l hl hlen q s hs _ w.heap.size (w.heap.size + 1) (w.heap.size + 2) g xs.toArray.size wr hrd e1 e2 e3 (by omega) (by omega) (by omega) (by omega) (by omega) (by omega) hb inst
          have hS := sortStable_s (ixV l) (fun x y => rkFull (rkGet l x.1) (rkGet l y.1) q s) 198 _ g 0 cap xs.toArray wr (enters_of Try.func198 (by kernel_rfl) rfl) hC hR (by simp; omega)
          rw [show xs.toArray.size = xs.length by simp] at hS
          have HS := Lib.hid hS
          have HL : Hid ((ssort (fun x y : Ix l => decide (rkFull (rkGet l x.1) (rkGet l y.1) q s < 0)) xs).map Subtype.val = ssort (rkLt l q s) (rkIdx l q l.length)) := by
            show _ = _
            exact (ssort_map Subtype.val (fun x y : Ix l => decide (rkFull (rkGet l x.1) (rkGet l y.1) q s < 0)) (rkLt l q s) (fun _ _ => rfl) xs).trans (by rw [HX.out])
          have HW : Hid (WO fun x y : Ix l => decide (rkFull (rkGet l x.1) (rkGet l y.1) q s < 0)) := wo_of (cmp_on (cmp_full q s) (fun x : Ix l => rkGet l x.1))
          have HR := Lib.hid hR
          clear hS hC e1 e2 e3 hb hrd hcell hcur hcs hR h3 h0 c1 c2 c3 hh
          go_wp2_with (go_at_call 197; (with_reducible refine (HS.out).mono ?_); rintro e w6 ⟨rfl, S6⟩)
          go_ret
          exact ⟨_, rfl, first_end l q n s xs g cap nn kk wr w6 HR.out HW.out HL.out S6 hnc HN.out HK.out (by omega), HB0.out.trans (S6.belowB (by omega) HB0.out.size)⟩
end Go.Proofs.Ytppmjbnhghaffaa
/- The contract of rank's reference: who stands first, picked again and again. Conditions: numbers are 64 bits. -/
namespace Go.Proofs.Ytppmjbnhghaffaa
open Go.RowKit
set_option linter.unusedSimpArgs false
set_option linter.unusedVariables false

def usedV (n : Nat) (O : List Nat) : List Value := (List.range n).map fun i => .bool (decide (i ∈ O))
theorem usedV_len (n : Nat) (O : List Nat) : (usedV n O).length = n := by simp [usedV]
theorem usedV_get {n i : Nat} {O : List Nat} (h : i < n) : (usedV n O)[i]? = some (.bool (decide (i ∈ O))) := by unfold usedV; rw [List.getElem?_map, List.getElem?_range h]; rfl
theorem usedV_set {n j : Nat} {O : List Nat} (h : j < n) : (usedV n O).set j (.bool true) = usedV n (O ++ [j]) := by
  apply List.ext_getElem?
  intro i
  rw [List.getElem?_set]
  by_cases hi : i < n
  · rw [usedV_get hi, usedV_get hi]
    by_cases e : j = i
    · subst e; simp [usedV_len, h]
    · rw [if_neg e]; simp [Ne.symm e]
  · rw [List.getElem?_eq_none (by rw [usedV_len]; omega), List.getElem?_eq_none (by rw [usedV_len]; omega)]
    split
    · rw [if_neg (by rw [usedV_len]; omega)]
    · rfl
def atI : Option Nat → Int
  | none => -1
  | some j => j
theorem rkIdx_nodup (l : List Pe) (q : Int) (k : Nat) : (rkIdx l q k).Nodup := List.nodup_range.filter _
theorem rkIdx_lt {l : List Pe} {q : Int} {k i : Nat} (h : i ∈ rkIdx l q k) : i < k := List.mem_range.1 (List.mem_filter.1 h).1
theorem left_snoc (A O : List Nat) (i : Nat) : leftOf (A ++ [i]) O = leftOf A O ++ (if i ∈ O then [] else [i]) := by
  unfold leftOf; rw [List.filter_append]; congr 1
  by_cases h : i ∈ O <;> simp [h]
theorem left_nil (O : List Nat) : leftOf [] O = [] := rfl
theorem counts_in {p : Pe} {q : Int} (h : rkCounts p q = true) : 1 ≤ q ∧ q ≤ 4 := by
  unfold rkCounts at h
  by_cases h1 : q = 1
  · omega
  by_cases h4 : q = 4
  · omega
  by_cases h2 : q = 2
  · omega
  by_cases h3 : q = 3
  · omega
  · rw [if_neg h1, if_neg h4, if_neg h2, if_neg h3] at h; cases h
/-- one round of the picking -/
theorem pick_skip {l : List Pe} {q : Int} {s i : Nat} {O : List Nat} (h : i ∈ O ∨ rkCounts (rkGet l i) q = false) : pickL (rkLt l q s) (leftOf (rkIdx l q (i + 1)) O) = pickL (rkLt l q s) (leftOf (rkIdx l q i) O) := by
  rw [rkIdx_succ]
  by_cases hc : rkCounts (rkGet l i) q = true
  · rcases h with h | h
    · rw [if_pos hc, left_snoc, if_pos h, List.append_nil]
    · rw [h] at hc; cases hc
  · rw [if_neg hc, List.append_nil]
theorem pick_take {l : List Pe} {q : Int} {s i : Nat} {O : List Nat} (h : ¬ i ∈ O) (hc : rkCounts (rkGet l i) q = true) : pickL (rkLt l q s) (leftOf (rkIdx l q (i + 1)) O) = pickStep (rkLt l q s) (pickL (rkLt l q s) (leftOf (rkIdx l q i) O)) i := by
  rw [rkIdx_succ, if_pos hc, left_snoc, if_neg h, pickL_snoc]
theorem pick_in {l : List Pe} {q : Int} {s i j : Nat} {O : List Nat} (h : pickL (rkLt l q s) (leftOf (rkIdx l q i) O) = some j) : j < i := by
  obtain ⟨A, B, h1, _, _⟩ := pickL_some (wo_lt l q s) (leftOf (rkIdx l q i) O).reverse (x := j) (by rw [List.reverse_reverse]; exact h)
  rw [List.reverse_reverse] at h1
  have : j ∈ leftOf (rkIdx l q i) O := by rw [h1]; simp
  exact rkIdx_lt (List.mem_filter.1 this).1
theorem owns_ne {w : World} {base n U : Nat} {v : Value} {xs us : List Value} (h : w.ownsRow base 3 1 v n xs) (hb : BlockIs w U us 4) : v.ownBlock ≠ some U := by
  rcases h.2 with ⟨rfl, _⟩ | ⟨g, cap, cur, rfl, hg, hh, _⟩
  · simp [Value.ownBlock]
  · simp only [Value.ownBlock]
    intro e
    injection e with e
    subst e
    unfold BlockIs at hb
    rw [hh] at hb
    injection hb with hb
    injection hb with _ hb
    exact absurd hb (by decide)
theorem blk_grown {w w' : World} {U : Nat} {us : List Value} {T : TypeId} {o : Option Nat} (h : BlockIs w U us T) (hg : w.grownBy w' o) (ho : o ≠ some U) : BlockIs w' U us T := by
  unfold BlockIs at *
  rw [hg.block U (BlockIs.lt (show BlockIs w U us T from h)) (fun e => ho e.symm)]; exact h
theorem run_make_bools (n : Nat) (hn : n ≤ 1000000) (W : World) : (Instr.makeSlice 52 (.int .i64 n) (.int .i64 n)).run Try.prog W = .ok (.slice (some ⟨W.heap.size, 0, none⟩) n n) (W.alloc (.cells (usedV n []).toArray 4)) := by
  obtain ⟨i, hi, hz0, hz1, hz2⟩ := info_parts (show (Try.prog.info? 4).map (fun i => (i.zero, i.size, i.bytes)) = some (some (.bool false), 1, 1) by kernel_rfl)
  have := run_make (P := Try.prog) W 52 4 i (.bool false) Try.underlying52 hi hz0 .i64 .i64 n n (by omega) (by omega) (by rw [hz2]; omega) (by omega)
  have e1 : ((n : Nat) : Int).toNat = n := by omega
  have e2 : madeCells (Value.bool false).cells (n * 1) = (usedV n []).toArray := by
    apply Array.ext
    · simp [size_madeCells, usedV_len]
    · intro j h1 h2
      simp [madeCells, usedV, Value.cells, Nat.mod_one]
  rw [this, e1, hz1, e2]
theorem natV_one (x : Nat) : ∀ u ∈ [natV x], u.oneCell' = true := by intro u hu; rw [List.mem_singleton.1 hu]; rfl
theorem owns_set {w : World} {base n U i : Nat} {v x : Value} {xs us : List Value} (h : w.ownsRow base 3 1 v n xs) (hb : BlockIs w U us 4) : (w.setCell ⟨U, i, none⟩ x).ownsRow base 3 1 v n xs := by
  have hne := owns_ne h hb
  obtain ⟨h1, h2⟩ := h
  refine ⟨h1, ?_⟩
  rcases h2 with h2 | ⟨g, cap, cur, rfl, hg, hh, r⟩
  · exact Or.inl h2
  · refine Or.inr ⟨g, cap, cur, rfl, hg, ?_, r⟩
    have hgu : g ≠ U := fun e => hne (by rw [e]; rfl)
    rw [← hh]; exact Below.heap_setCell _ _ _ _ (fun e => hgu e)
end Go.Proofs.Ytppmjbnhghaffaa
/- The law of rank, plain: a list turned, and who is among the first. Conditions: ends unlike. -/
namespace Go.Proofs.Ytppmjbnhghaffaa

def rkP (q : Int) (s : Nat) (a b : Pe) : Bool := decide (rkFull a b q s < 0)
theorem wo_P (q : Int) (s : Nat) : WO (rkP q s) := wo_of (cmp_full q s)
theorem rk_total {q : Int} {s : Nat} {a b : Pe} (h : a.en ≠ b.en) : rkP q s a b = true ∨ rkP q s b a = true := by
  have hn := (cmp_full q s).neg a b
  have hz : rkFull a b q s ≠ 0 := by
    intro e
    unfold rkFull at e
    rw [orI_two] at e
    split at e
    · exact h (enCmp_zero e)
    · contradiction
  unfold rkP
  rcases Int.lt_or_le (rkFull a b q s) 0 with h1 | h1
  · exact Or.inl (decide_eq_true h1)
  · exact Or.inr (decide_eq_true (by omega))
theorem range_get (l : List Pe) : (List.range l.length).map (rkGet l) = l := by
  apply List.ext_getElem?
  intro i
  rw [List.getElem?_map]
  by_cases h : i < l.length
  · rw [List.getElem?_range h, List.getElem?_eq_getElem h]
    simp [rkGet, List.getElem?_eq_getElem h]
  · rw [List.getElem?_eq_none (by simp; omega), List.getElem?_eq_none (by omega)]; rfl
theorem idx_map (l : List Pe) (q : Int) : (rkIdx l q l.length).map (rkGet l) = l.filter fun p => rkCounts p q := by
  conv => rhs; rw [← range_get l]
  rw [List.filter_map]; rfl
theorem first_map (l : List Pe) (q n : Int) (s : Nat) : (rkFirst l q n s).map (rkGet l) = (ssort (rkP q s) (l.filter fun p => rkCounts p q)).take n.toNat := by
  unfold rkFirst
  rw [List.map_take, ssort_map (rkGet l) (rkLt l q s) (rkP q s) (fun _ _ => rfl), idx_map]
def Unlike (l : List Pe) : Prop := l.Pairwise fun a b => a.en ≠ b.en
/-- turned: the same peers, one by one -/
theorem first_turned (l : List Pe) (q n : Int) (s k : Nat) (h : Unlike l) : (rkFirst (l.drop k ++ l.take k) q n s).map (rkGet (l.drop k ++ l.take k)) = (rkFirst l q n s).map (rkGet l) := by
  rw [first_map, first_map, List.filter_append]
  congr 1
  conv => rhs; rw [← List.take_append_drop k l, List.filter_append]
  refine ssort_comm (wo_P q s) _ _ (fun x hx y hy => ?_)
  have hu : (l.take k ++ l.drop k).Pairwise fun a b => a.en ≠ b.en := by rw [List.take_append_drop]; exact h
  have := (List.pairwise_append.1 hu).2.2 y (List.mem_filter.1 hy).1 x (List.mem_filter.1 hx).1
  exact (rk_total this).symm
theorem idx_total (l : List Pe) (q : Int) (s : Nat) (h : Unlike l) : (rkIdx l q l.length).Pairwise fun a b => rkLt l q s a b = true ∨ rkLt l q s b a = true := by
  have h1 : (l.filter fun p => rkCounts p q).Pairwise fun a b => a.en ≠ b.en := List.Pairwise.filter _ h
  rw [← idx_map, List.pairwise_map] at h1
  exact h1.imp fun {a b} hab => rk_total hab
theorem filter_range (l : List Pe) (f : Pe → Bool) : (l.filter f).length = ((List.range l.length).filter fun y => f (rkGet l y)).length := by
  conv => lhs; rw [← range_get l]
  rw [List.filter_map, List.length_map]; rfl
/-- who is among the first -/
theorem first_mem (l : List Pe) (q n : Int) (s i : Nat) (h : Unlike l) (hi : i < l.length) : (i ∈ rkFirst l q n s) ↔ (rkCounts (rkGet l i) q && decide (((rkN l (rkGet l i) q s l.length : Nat) : Int) < n)) = true := by
  by_cases hc : rkCounts (rkGet l i) q = true
  · have hx : i ∈ rkIdx l q l.length := List.mem_filter.2 ⟨List.mem_range.2 hi, hc⟩
    have e : (rkIdx l q l.length).filter (fun y => rkLt l q s y i) = (List.range l.length).filter fun y => rkCounts (rkGet l y) q && rkLt l q s y i := by
      unfold rkIdx; rw [List.filter_filter]; congr 1; funext y; rw [Bool.and_comm]
    have e2 : ((List.range l.length).filter fun y => rkCounts (rkGet l y) q && rkLt l q s y i).length = rkN l (rkGet l i) q s l.length := by
      unfold rkN
      rw [List.take_length]
      rw [filter_range l]
      congr 1
      apply List.filter_congr
      intro y _
      cases hy : rkCounts (rkGet l y) q with
      | false => simp
      | true =>
        have := counts_in hy
        rw [rkAhead_in this.1 this.2]; rfl
    unfold rkFirst
    rw [first_iff (wo_lt l q s) (idx_total l q s h) n.toNat hx, e, e2, hc, Bool.true_and, decide_eq_true_eq]
    omega
  · constructor
    · intro hm
      unfold rkFirst at hm
      have := (ssort_mem _).1 (List.mem_of_mem_take hm)
      exact absurd (List.mem_filter.1 this).2 hc
    · intro hm
      rw [Bool.and_eq_true] at hm
      exact absurd hm.1 hc
end Go.Proofs.Ytppmjbnhghaffaa
