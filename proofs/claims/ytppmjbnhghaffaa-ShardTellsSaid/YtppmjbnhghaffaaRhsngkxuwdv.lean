/- Texts put together: ShK. No condition. -/
import Derived.Test.YtppmjbnhghaffaaRazrkojhjbw
import Derived.Deep.RegionLaw
namespace Go.Proofs.Ytppmjbnhghaffaa
open Go.RowKit Go.Lib

theorem shRow : RowT Try.prog 59 70 2 32 := RowT.mk (.agg #[.int .i64 0, .slice none 0 0]) Try.underlying59 (by kernel_rfl) rfl (by omega)
theorem apart_owns {w w' : World} {base base' n n' size size' : Nat} {e e' : TypeId} {u v : Value} {xs ys : List Value} (hu : w.ownsRow base e size u n xs) (hv : w'.ownsRow base' e' size' v n' ys) (h : w.heap.size ≤ base') : ApartV u v := by
  intro g a b
  have h1 := (hu.lt g a).2
  have h2 := (hv.lt g b).1
  omega
/-- the parts that stand in a row: each one's peers lie in a block of its own, apart from the row -/
def Stood (w : World) (base : Nat) (out : Value) (ss : List Sh) : Prop := ∀ s ∈ ss, w.ownsRow base 66 10 s.v s.l.length (s.l.flatMap peV) ∧ ApartV out s.v
theorem Stood.below {w w' : World} {base : Nat} {out : Value} {ss : List Sh} (h : Stood w base out ss) (hb : Below w.heap.size w w') : Stood w' base out ss := fun s hs => ⟨owns_below (h s hs).1 hb, (h s hs).2⟩
theorem Stood.put {w w' : World} {base k : Nat} {out out' : Value} {ss : List Sh} (h : Stood w base out ss) (hg : w.grownBy w' out.ownBlock) (hk : w.heap.size ≤ k) (ha : out'.ownBlock = out.ownBlock ∨ out'.ownBlock = some k) : Stood w' base out' ss :=
  fun s hs => ⟨owns_apart (h s hs).1 hg fun g a b => (h s hs).2 g b a, apart_new (h s hs).2 (h s hs).1 hk ha⟩
theorem Stood.snoc {w : World} {base : Nat} {out : Value} {ss : List Sh} {t : Sh} (h : Stood w base out ss) (ht : w.ownsRow base 66 10 t.v t.l.length (t.l.flatMap peV) ∧ ApartV out t.v) : Stood w base out (ss ++ [t]) := fun s hs => by
  rcases List.mem_append.1 hs with hs | hs
  · exact h s hs
  · rw [List.mem_singleton.1 hs]; exact ht
def partOf (l : List Pe) (s : Nat) (n : Int) (ss : List Sh) : Prop := ∀ (i : Nat) (x : Sh), ss[i]? = some x → x.size = ((partL l s n i).length : Int) ∧ x.l = partL l s n i
theorem partOf_snoc {l : List Pe} {s : Nat} {n : Int} {ss : List Sh} {v : Value} (h : partOf l s n ss) : partOf l s n (ss ++ [⟨((partL l s n ss.length).length : Int), v, partL l s n ss.length⟩]) := by
  intro i x hi
  rw [List.getElem?_append] at hi
  split at hi
  · exact h i x hi
  · rename_i hlt
    have : i - ss.length = 0 := by
      rcases Nat.eq_zero_or_pos (i - ss.length) with e | e
      · exact e
      · rw [List.getElem?_eq_none (by simp only [List.length_singleton]; omega)] at hi; cases hi
    rw [this] at hi
    have e : i = ss.length := by omega
    subst e
    simp only [List.getElem?_cons_zero, Option.some.injEq] at hi
    subst hi; exact ⟨rfl, rfl⟩
set_option maxRecDepth 100000 in
set_option maxHeartbeats 16000000 in
theorem refShSplit_any (v : Value) (l : List Pe) (s : Nat) (hs : s < 18446744073709551616) (n : Int) (w : World) (h : ReadsL peV 10 w v l) (hf : ∀ p ∈ l, p.en.ad.fits) (hl : l.length ≤ 1000000) :
    Calls Try.prog 52 #[v, .int .u64 s, .int .i64 n] w fun e w' => ∃ r ss, e = .returned r ∧ ReadsSh w' r ss ∧ PartsOf ss l s n ∧ Below w.heap.size w w' := by
  obtain ⟨hm, a0, c, rfl, h3⟩ := pes_open h
  clear h
  have HPa := Lib.hid (fun W => refParts_any n W)
  have hmi := partsN_in n
  obtain ⟨m, hmm⟩ : ∃ m, m = partsN n := ⟨_, rfl⟩
  have HM := Lib.hid hmm
  rw [← hmm] at HPa hmi
  clear hmm
  have HMade : Hid ((w.alloc (.cells #[] 70)).ownsRow w.heap.size 70 2 (.slice (some ⟨w.heap.size, 0, none⟩) 0 0) 0 []) := own_made rfl (Nat.le_refl _)
  have HB0 : Hid (Below w.heap.size w (w.alloc (.cells #[] 70))) := (Below.refl _ _).alloc (Nat.le_refl _) _
  go_enter Try.func52, Try.ntmps52
  go_wp2_with fail
  go_loopw [7, 8] (fun u' k' wr => ∃ ss : List Sh, ss.length ≤ m ∧ k' = .int .i64 ss.length ∧ Hid (wr.ownsRow w.heap.size 70 2 u' ss.length (ss.flatMap shV)) ∧ Hid (partOf l s n ss) ∧ Hid (Stood wr w.heap.size u' ss) ∧ Hid (Below w.heap.size w wr)) (fun _ k' _ => m - (intOf k').toNat)
  case atStart => exact ⟨[], by simp, rfl, HMade.out, fun i x hi => by simp at hi, fun s hs => by simp at hs, HB0.out⟩
  case round =>
    clear HMade HB0
    obtain ⟨ss, hk, rfl, HU, HP, HS, HB⟩ := hrel
    obtain ⟨wo, rfl⟩ : ∃ wo : World, wo = wr := ⟨_, rfl⟩
    obtain ⟨k, hkk⟩ : ∃ k, k = ss.length := ⟨_, rfl⟩
    have HKK := Lib.hid hkk
    rw [← hkk] at HU hk
    rw [← hkk]
    clear hkk
    by_cases hlt : k < m
    · have q1 : (0 : Int) ≤ (k : Int) := by omega
      have q2 : (k : Int) < (m : Int) := by omega
      obtain ⟨D, hD⟩ : ∃ D, D = wo.heap.size := ⟨_, rfl⟩
      have HD := Lib.hid hD
      have HKb : Hid (BlockIs ((wo.alloc (.cells #[.int .i64 0, .slice none 0 0] 70))) D [.int .i64 0, .slice none 0 0] 70) := by subst hD; exact BlockIs.new wo [.int .i64 0, .slice none 0 0] _
      go_upto_region 6 with (go_at_call 99; (with_reducible refine (HPa.out _).mono ?_); rintro e w' ⟨rfl, rfl⟩)
      go_name_world W1 hW1
      have hK1 : BlockIs W1 D [.int .i64 0, .slice none 0 0] 70 := by subst hW1 hD; exact BlockIs.newAt' _ _ _ (by simp)
      have hB1 : Below wo.heap.size wo W1 := by subst hW1; (repeat (first | with_reducible assumption | with_reducible exact Below.refl _ _ | with_reducible refine Below.setCell ?_ (by first | omega | (simp; done) | (simp; omega)) _ | with_reducible refine Below.alloc ?_ (by first | omega | (simp; done) | (simp; omega)) _ | with_reducible refine Below.drew ?_ | (with_reducible refine Below.trans ?_ (Below.mono (by with_reducible assumption) (by first | omega | (simp; done) | (simp; omega)))) | (refine Below.trans ?_ (Below.mono (by assumption) (by first | omega | (simp; done) | (simp; omega))))))
      rw [← hD]
      have HK1 := Lib.hid hK1; have HB1 := Lib.hid hB1
      clear hW1 hK1 hB1 hD HKb
      go_wp2_with fail
      go_loopw [10] (fun i' wr => ∃ (i : Nat) (y : Value), i ≤ l.length ∧ i' = .int .i64 i ∧ Hid (BlockIs wr D [.int .i64 (partL (l.take i) s n k).length, y] 70) ∧ Hid (wr.ownsRow (D + 1) 66 10 y (partL (l.take i) s n k).length ((partL (l.take i) s n k).flatMap peV)) ∧ Hid (Below wo.heap.size wo wr)) (fun i' _ => l.length - (intOf i').toNat)
      case atStart => exact ⟨0, _, by omega, rfl, HK1.out, World.ownsRow_nil _ _ _ _, HB1.out⟩
      case round =>
        clear HK1 HB1
        obtain ⟨i, y, hi, rfl, HK, HO, HBq⟩ := hrel
        have HBw := Lib.hid (below2 HB.out HBq.out)
        by_cases hil : i < l.length
        · obtain ⟨x, hx⟩ : ∃ x, l[i]? = some x := ⟨_, List.getElem?_eq_getElem hil⟩
          obtain ⟨b, o, rfl, h4, h5, h6⟩ := h3 (by omega)
          have hbl := Nat.lt_of_lt_of_le h5 HBw.out.size
          have hKX := (h6 i x hx).below HBw.out h5
          have HKX := Lib.hid hKX
          obtain ⟨k0, k1, k2, k3, k4, k5, k6, k7, k8, k9⟩ := hKX
          have p1 : (0 : Int) ≤ (i : Int) := by omega
          have p2 : (i : Int) < (l.length : Int) := by omega
          have hfx := hf x (List.mem_of_getElem? hx)
          have hO := fun W => refShOf_any x.en.ad hfx s hs n W
          obtain ⟨j, hj⟩ : ∃ j, j = ofN x.en.ad s n := ⟨_, rfl⟩
          rw [← hj] at hO
          have HOf := Lib.hid hO
          have hS := partL_snoc (s := s) (n := n) (i := k) hx
          rw [← hj] at hS
          have HSn := Lib.hid hS
          have hcl := partL_len (l.take i) s n k
          rw [List.length_take] at hcl
          have hcl2 : (partL (l.take i) s n k).length ≤ 1000000 := by omega
          clear hx h6 hO hj hS h3 hcl
          by_cases hjk : j = k
          · subst hjk
            have HN : Hid (partL (l.take (i + 1)) s n j = partL (l.take i) s n j ++ [x]) := by show _ = _; rw [HSn.out, if_pos rfl]
            go_upto_region 10 with (go_at_call 43; (with_reducible refine (HOf.out _).mono ?_); rintro e W6 ⟨rfl, b6⟩)
            clear k0 k1 k2 k3 k4 k5 k6 k7 k8 k9
            have HB6 := Lib.hid (below2 HBq.out b6)
            have hK6 := HK.out.below b6
            have HO6 := Lib.hid (owns_below HO.out b6)
            have hKX6 := HKX.out.below b6 hbl
            have hbl6 := Nat.lt_of_lt_of_le hbl b6.size
            obtain ⟨x0, x1, x2, x3, x4, x5, x6, x7, x8, x9⟩ := hKX6
            have lD := hK6.lt
            have s0 := hK6.cell (i := 0) rfl; have s1 := hK6.cell (i := 1) rfl
            have sf := hK6.frozen
            have HK6 := Lib.hid hK6
            have HNE := Lib.hid (owns_neB HO6.out (Nat.lt_succ_self D))
            obtain ⟨q, hq⟩ : ∃ q, q = partL (l.take i) s n j := ⟨_, rfl⟩
            have HQ := Lib.hid hq
            rw [← hq] at HN HO6 HK6 s0 hcl2
            have hw1 : IntKind.i64.wrap ((q.length : Int) + 1) = (q.length : Int) + 1 := by rw [IntKind.wrap_i64]; omega
            clear hK6 b6 HK HO HBq HBw HKX hq HOf HSn
            obtain ⟨ga, cy, rfl⟩ := owns_slice HO6.out
            go_region_law (first | (refine step_app_reads_at peRow (by rfl) (.tmp 37) (.tmp 42) (by rfl) (D + 1) (.slice ga q.length cy) q.length (q.flatMap peV) (by rfl) (by (repeat (first | (with_reducible exact HO6.out) | (with_reducible refine World.ownsRow.alloc ?_ _) | (with_reducible refine World.ownsRow.drew ?_))); done) _ 1 (peV x) (by rfl) (reads_blk (B := W6.heap.size) (T := 66) (by (repeat (first | (with_reducible refine BlockIs.drew' ?_) | ((refine BlockIs.newAt' _ _ _ ?_); (first | rfl | (simp; done))))); done) rfl (Nat.succ_pos 9)) (peV_one1 x) (by omega) (by omega) (by first | omega | (simp; omega)) ?_; intro v7 w7 o7 g7 a7; obtain ⟨gv, cv, rfl⟩ := owns_slice o7; have hK7 : BlockIs w7 D [.int .i64 q.length, .slice ga q.length cy] 70 := blk_grown (by (repeat (first | (with_reducible exact HK6.out) | (with_reducible refine BlockIs.alloc' ?_ _) | (with_reducible refine BlockIs.drew' ?_))); done) g7 HNE.out; have sf7 := hK7.frozen; have s70 := hK7.cell (i := 0) rfl; have s71 := hK7.cell (i := 1) rfl) | fail)
            all_goals
              go_upto_region 11 with fail
              go_name_world W8 hW8
              have hb7 : Below (D + 1) W6 w7 := below_grown (base := D + 1) (e := 66) (size := 10) (v := .slice ga q.length cy) (n := q.length) (xs := q.flatMap peV) (by (repeat (first | (with_reducible exact HO6.out) | (with_reducible refine World.ownsRow.alloc ?_ _) | (with_reducible refine World.ownsRow.drew ?_))); done) (by (repeat (first | with_reducible assumption | with_reducible exact Below.refl _ _ | with_reducible refine Below.setCell ?_ (by first | omega | (simp; done) | (simp; omega)) _ | with_reducible refine Below.alloc ?_ (by first | omega | (simp; done) | (simp; omega)) _ | with_reducible refine Below.drew ?_ | (with_reducible refine Below.trans ?_ (Below.mono (by with_reducible assumption) (by first | omega | (simp; done) | (simp; omega)))) | (refine Below.trans ?_ (Below.mono (by assumption) (by first | omega | (simp; done) | (simp; omega))))))) (Nat.le_refl _) (by first | omega | (simp; omega)) g7
              have hK8 := hK7.set 1 (.slice gv (q.length + 1) cv)
              have hO8 := owns_setB (i := 1) (x := .slice gv (q.length + 1) cv) o7 hK7 (owns_neB o7 (Nat.lt_succ_self D))
              have hB8 : Below wo.heap.size wo (w7.setCell ⟨D, 1, none⟩ (.slice gv (q.length + 1) cv)) := (HB6.out.trans (hb7.mono (by have := HD.out; omega))).setCell (by have := HD.out; show _ ≤ D; omega) _
              rw [hW8] at hK8 hO8 hB8
              simp only [List.set_cons_succ, List.set_cons_zero] at hK8
              have s80 := hK8.cell (i := 0) rfl
              have sf8 := hK8.frozen
              have lD8 := hK8.lt
              have HK8 := Lib.hid hK8; have HO8 := Lib.hid hO8; have HB8 := Lib.hid hB8
              clear hW8 hb7 hK8 hO8 hB8 s70 s71 sf7 o7 g7 a7 hK7 x0 x1 x2 x3 x4 x5 x6 x7 x8 x9 s0 s1 sf HK6 HO6 HB6
              go_upto_region 8 with fail
              go_name_world W9 hW9
              have hK9 := HK8.out.set 0 (.int .i64 ((q.length : Int) + 1))
              have hO9 := owns_setB (i := 0) (x := .int .i64 ((q.length : Int) + 1)) HO8.out HK8.out (owns_neB HO8.out (Nat.lt_succ_self D))
              have hB9 : Below wo.heap.size wo (W8.setCell ⟨D, 0, none⟩ (.int .i64 ((q.length : Int) + 1))) := HB8.out.setCell (by have := HD.out; show _ ≤ D; omega) _
              rw [hW9] at hK9 hO9 hB9
              simp only [List.set_cons_zero] at hK9
              have HL : Hid ((q ++ [x]).length = q.length + 1) := by show _ = _; simp
              have HFl : Hid ((q ++ [x]).flatMap peV = q.flatMap peV ++ peV x) := by show _ = _; rw [List.flatMap_append]; simp
              have HK9 := Lib.hid hK9; have HO9 := Lib.hid hO9; have HB9 := Lib.hid hB9
              clear hW9 hK9 hO9 hB9 s80 sf8 HK8 HO8 HB8
              go_wp2_with fail
              go_roundw
              case rel => exact ⟨i + 1, _, by omega, by go_num, by rw [HN.out, HL.out]; exact HK9.out, by rw [HN.out, HL.out, HFl.out]; exact HO9.out, HB9.out⟩
              case measure => simp [intOf]; omega
          · have HN : Hid (partL (l.take (i + 1)) s n k = partL (l.take i) s n k) := by show _ = _; rw [HSn.out, if_neg hjk]
            have hjz : ¬ ((j : Int) = (k : Int)) := by omega
            have hjb : ((j : Int) == (k : Int)) = false := beq_eq_false_iff_ne.2 hjz
            go_wp2_with (go_at_call 43; (with_reducible refine (HOf.out _).mono ?_); rintro e W6 ⟨rfl, b6⟩)
            go_roundw
            case rel => exact ⟨i + 1, y, by omega, by go_num, by rw [HN.out]; exact HK.out.below b6, by rw [HN.out]; exact owns_below HO.out b6, below2 HBq.out b6⟩
            case measure => simp [intOf]; omega
        · obtain rfl : i = l.length := by omega
          have hTk : l.take l.length = l := List.take_length
          rw [hTk] at HK HO
          have HUq := Lib.hid (owns_below HU.out HBq.out); have HSq := Lib.hid (HS.out.below HBq.out)
          have hApt := apart_owns HU.out HO.out (by have := HD.out; omega)
          obtain ⟨q, hq⟩ : ∃ q, q = partL l s n k := ⟨_, rfl⟩
          have HPn : Hid (∀ vv, partOf l s n (ss ++ [⟨(q.length : Int), vv, q⟩])) := fun vv => by
            have := partOf_snoc (v := vv) HP.out
            rw [hq, HKK.out]; exact this
          rw [← hq] at HK HO
          have HAp := Lib.hid hApt
          have s0 := HK.out.cell (i := 0) rfl; have s1 := HK.out.cell (i := 1) rfl
          have HFl : Hid (∀ vv, (ss ++ [(⟨(q.length : Int), vv, q⟩ : Sh)]).flatMap shV = ss.flatMap shV ++ [.int .i64 q.length, vv]) := fun vv => by rw [List.flatMap_append]; simp [shV]
          have HLn : Hid (∀ vv, (ss ++ [(⟨(q.length : Int), vv, q⟩ : Sh)]).length = k + 1) := fun vv => by rw [HKK.out]; simp
          have hbase : w.heap.size ≤ wr.heap.size := HBw.out.size
          obtain ⟨ga, cy, rfl⟩ := owns_slice HO.out
          clear hTk h3 hq hApt
          go_wp2_with (at_builtin; refine list_app_reads_at shRow rfl (.tmp 49) (.tmp 51) rfl w.heap.size _ k (ss.flatMap shV) rfl (HUq.out.alloc _) _ 1 [.int .i64 q.length, .slice ga q.length cy] rfl (reads_one (us := [.int .i64 q.length, .slice ga q.length cy]) rfl (Nat.succ_pos 1)) (by simp [Value.oneCell']) (by omega) (by omega) (by simp; omega) ?_; intro v7 w7 o7 g7 a7)
          have hb7 : Below w.heap.size w w7 := below_grown (HUq.out.alloc _) (by first | exact HBw.out.alloc hbase _) (Nat.le_refl _) (by simp; omega) g7
          have hs7 := Stood.put (HSq.out.below ((Below.refl _ _).alloc (Nat.le_refl _) _)) g7 (Nat.le_refl _) a7
          have ho7 := owns_apart (HO.out.alloc _) g7 fun ga' e1 e2 => HAp.out ga' e2 e1
          have ha7 := apart_new HAp.out (HO.out.alloc _) (Nat.le_refl _) a7
          have hs8 := hs7.snoc (t := ⟨(q.length : Int), .slice ga q.length cy, q⟩) ⟨owns_base ho7 (by have := HD.out; have := HB.out.size; omega), ha7⟩
          have HS8 := Lib.hid hs8; have HB7 := Lib.hid hb7
          clear hs7 ho7 ha7 hs8 hb7 g7 a7
          go_roundw
          case rel => exact ⟨ss ++ [(⟨(q.length : Int), .slice ga q.length cy, q⟩ : Sh)], by rw [HLn.out (.slice ga q.length cy)]; omega, by rw [HLn.out (.slice ga q.length cy)]; go_num, by rw [HLn.out (.slice ga q.length cy), HFl.out]; exact o7, HPn.out _, HS8.out, HB7.out⟩
          case measure => simp [intOf]; omega
    · obtain rfl : k = m := by omega
      have hR : ∀ u, wo.ownsRow w.heap.size 70 2 u k (ss.flatMap shV) → ReadsL shV 2 wo u ss := fun u ho => owns_readsL (by rw [← HKK.out]; exact ho)
      have HR := Lib.hid hR
      have HPP : Hid (PartsOf ss l s n) := ⟨by rw [← HM.out, HKK.out], HP.out⟩
      clear hR h3
      go_wp2_with (go_at_call 99; (with_reducible refine (HPa.out _).mono ?_); rintro e w' ⟨rfl, rfl⟩)
      go_ret
      exact ⟨_, ss, rfl, ⟨HR.out _ HU.out, fun t ht => owns_readsL (HS.out t ht).1⟩, HPP.out, HB.out⟩
end Go.Proofs.Ytppmjbnhghaffaa
