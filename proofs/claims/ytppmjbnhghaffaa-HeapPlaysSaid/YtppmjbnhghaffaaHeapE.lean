/- The contracts of heap: Make, Push, Pop, Sorted; of the reference: Put, Sorted. -/
import Derived.Test.YtppmjbnhghaffaaHeapD
import Derived.Handy
namespace Go.Proofs.Ytppmjbnhghaffaa
open Go.RowKit

theorem GivesL.mono {α : Type} {f : α → List Value} {T : TypeId} {n : Nat} {W : World} {l : List α} {e : Ending} {w' : World} (h : GivesL f T n W l e w') : ∃ v, e = .returned v ∧ w'.ownsRow W.heap.size T n v l.length (l.flatMap f) ∧ Below W.heap.size W w' := h
theorem down_len (l : List It) (i : Nat) : (Hp.down itLt l i).length = l.length := Hp.down_len _ l i (Nat.le_refl _)
set_option maxRecDepth 100000 in
set_option maxHeartbeats 400000 in
theorem make_any (v : Value) (l : List It) (w : World) (h : ReadsL itV 5 w v l) (hl : l.length ≤ 1000000) : Calls Try.prog 36 #[v] w (GivesL itV 38 5 w (Hp.make itLt l)) := by
  have HC := Lib.hid (fun w' (b : Below w.heap.size w w') => cloneIt_any v l w' (h.below b) hl)
  obtain ⟨hm, a, c, rfl, h3⟩ := it_open h
  clear h h3
  go_enter Try.func36, Try.ntmps36
  go_wp2_with (go_at_call 89; refine (HC.out _ (Below.refl _ _)).mono ?_; rintro e w1 ⟨v1, rfl, hown, hb⟩; obtain ⟨sa, sc, rfl⟩ := owns_slice hown)
  have HO := Lib.hid hown; clear hown
  go_loopw [4] (fun s4 wr => ∃ (k : Nat) (g : List It), s4 = .int .i64 ((k : Int) - 1) ∧ k ≤ l.length / 2 ∧ Hid (g.length = l.length) ∧ Hid (Hp.make itLt l = Hp.makeTo itLt k g) ∧ Hid (wr.ownsRow w.heap.size 38 5 (.slice sa l.length sc) l.length (g.flatMap itV)) ∧ Below w.heap.size w wr) (fun s4 _ => (intOf s4 + 1).toNat)
  case atStart => exact ⟨l.length / 2, l, by go_num, Nat.le_refl _, rfl, rfl, HO.out, hb⟩
  case round =>
    obtain ⟨k, g, rfl, hk, HL, HM, HW, hbr⟩ := hrel
    cases k with
    | zero =>
      go_wp2_with fail
      go_ret
      refine ⟨_, rfl, ?_, hbr⟩
      have e : Hp.make itLt l = g := HM.out
      rw [e, HL.out]; exact HW.out
    | succ j =>
      have hz := hbr.size
      rw [show ((j + 1 : Nat) : Int) - 1 = (j : Int) from by omega]
      have hd := fun wx => down_any (.slice sa l.length sc) g j wx w.heap.size
      rw [HL.out] at hd
      have HDn := Lib.hid (hd wr HW.out (by omega) (by omega)); clear hd
      go_wp2_with (go_at_call 90; refine HDn.out.mono ?_; rintro e w2 ⟨rfl, hp1, hp2⟩)
      go_roundw
      case rel => exact ⟨j, Hp.down itLt g j, by go_num, by omega, (down_len g j).trans HL.out, HM.out, hp1, below_grown HW.out hbr (Nat.le_refl _) hz hp2⟩
      case measure => simp [intOf]
theorem up_len (i : Nat) : ∀ l : List It, (Hp.up itLt l i).length = l.length := by
  induction i using Nat.strongRecOn with
  | ind i ih =>
    intro l
    rw [Hp.up]
    split
    · rename_i h0
      split
      · split
        · rw [ih _ (by unfold Hp.par; omega), Hp.swp_len]
        · rfl
      · rfl
    · rfl
theorem push_len (l : List It) (x : It) : (Hp.push itLt l x).length = l.length + 1 := by unfold Hp.push; rw [up_len]; simp
set_option maxRecDepth 100000 in
set_option maxHeartbeats 400000 in
theorem push_any (v : Value) (l : List It) (x : It) (w : World) (h : ReadsL itV 5 w v l) (hl : l.length ≤ 100000) : Calls Try.prog 37 #[v, .agg #[.int .i64 x.key, .bool x.en.ad.v6, .int .u64 x.en.ad.hi, .int .u64 x.en.ad.lo, .int .i64 x.en.port]] w (GivesL itV 38 5 w (Hp.push itLt l x)) := by
  have HC := Lib.hid (fun w' (b : Below w.heap.size w w') => cloneIt_any v l w' (h.below b) (by omega))
  obtain ⟨hm, a, c, rfl, h3⟩ := it_open h
  clear h h3
  have hx : itV x = [.int .i64 x.key, .bool x.en.ad.v6, .int .u64 x.en.ad.hi, .int .u64 x.en.ad.lo, .int .i64 x.en.port] := rfl
  have HX := Lib.hid hx; clear hx
  have z0 : w.heap.size < w.heap.size + 1 := by omega
  have rd : Reads ((w.alloc (.cells #[.int .i64 x.key, .bool x.en.ad.v6, .int .u64 x.en.ad.hi, .int .u64 x.en.ad.lo, .int .i64 x.en.port] 38)).alloc (.cells #[.int .i64 x.key, .bool x.en.ad.v6, .int .u64 x.en.ad.hi, .int .u64 x.en.ad.lo, .int .i64 x.en.port] 38)).drew (.slice (some ⟨w.heap.size + 1, 0, none⟩) 1 1) 1 5 (itV x) := by
    have := reads_one (w := w.alloc (.cells #[.int .i64 x.key, .bool x.en.ad.v6, .int .u64 x.en.ad.hi, .int .u64 x.en.ad.lo, .int .i64 x.en.port] 38)) (T := 38) (us := itV x) rfl (Nat.succ_pos 4)
    simp only [World.size_alloc] at this
    exact this
  have RD := Lib.hid rd; clear rd
  have z1 : w.heap.size < w.heap.size + 1 + 1 := by omega
  go_enter Try.func37, Try.ntmps37
  go_wp2_with fail
  go_region_held3 (fun w' => w'.cell? ⟨w.heap.size, 0, none⟩ = some (.int .i64 x.key) ∧ w'.cell? ⟨w.heap.size, 1, none⟩ = some (.bool x.en.ad.v6) ∧ w'.cell? ⟨w.heap.size, 2, none⟩ = some (.int .u64 x.en.ad.hi) ∧ w'.cell? ⟨w.heap.size, 3, none⟩ = some (.int .u64 x.en.ad.lo) ∧ w'.cell? ⟨w.heap.size, 4, none⟩ = some (.int .i64 x.en.port)) (first | go_keep | (simp (disch := omega) [*])) (first | (go_at_call 89; refine (HC.out _ (by repeat (first | exact Below.refl _ _ | refine Below.alloc ?_ (by first | omega | (simp; done) | (simp; omega)) _ | refine Below.drew ?_))).mono ?_; rintro e w1 ⟨v1, rfl, hown, hb⟩; obtain ⟨c1, f1⟩ := bcell hb; have hz := hb.size; have hB : Below (w.heap.size + 1) (w.alloc (.cells #[.int .i64 x.key, .bool x.en.ad.v6, .int .u64 x.en.ad.hi, .int .u64 x.en.ad.lo, .int .i64 x.en.port] 38)) w1 := Below.trans (by repeat (first | exact Below.refl _ _ | refine Below.alloc ?_ (by first | omega | (simp; done) | (simp; omega)) _ | refine Below.drew ?_)) (Below.mono hb (by simp)); have hown2 := owns_base (base' := w.heap.size + 1) hown (by simp)) | (refine step_app_reads itRow (by rfl) (.tmp 7) (.tmp 9) (by rfl) (w.heap.size + 1) v1 l.length (l.flatMap itV) (by rfl) (by first | exact hown2 | exact hown2.alloc _) _ 1 [.int .i64 x.key, .bool x.en.ad.v6, .int .u64 x.en.ad.hi, .int .u64 x.en.ad.lo, .int .i64 x.en.port] (by rfl) (by first | exact reads_one (us := itV x) rfl (Nat.succ_pos 4) | exact Reads.below RD.out hb) (itV_one [x]) (by omega) (by omega) (Nat.le_trans (Nat.le_trans (by simp) hB.size) (by simp)) (w.heap.size + 1) _ (by first | exact hB | exact hB.alloc (by have := hB.size; simpa using this) _) (Nat.le_refl _) ?_; intro v' w' hown' hb'; obtain ⟨c2, f2⟩ := bcellB hb'))
  all_goals
    obtain ⟨sa, sc, rfl⟩ := owns_slice hown'
    have hu := fun wx => up_any (.slice sa (l.length + 1) sc) (l ++ [x]) l.length wx (w.heap.size + 1)
    have e1 : l.flatMap itV ++ [.int .i64 x.key, .bool x.en.ad.v6, .int .u64 x.en.ad.hi, .int .u64 x.en.ad.lo, .int .i64 x.en.port] = (l ++ [x]).flatMap itV := (flat_snoc itV l x).symm
    rw [e1] at hown'
    simp only [List.length_append, List.length_cons, List.length_nil, Nat.zero_add] at hu
    have HU := Lib.hid (hu w' hown' (by omega) (by omega))
    clear hu e1
    go_wp2_with (go_at_call 91; refine HU.out.mono ?_; rintro e w2 ⟨rfl, hp1, hp2⟩)
    go_ret
    refine ⟨_, rfl, ?_, ?_⟩
    · rw [push_len]; exact owns_base hp1 (by omega)
    · refine Below.trans ((Below.refl _ _).alloc (Nat.le_refl _) (.cells #[.int .i64 x.key, .bool x.en.ad.v6, .int .u64 x.en.ad.hi, .int .u64 x.en.ad.lo, .int .i64 x.en.port] 38)) (Below.mono (below_grown hown' hb' (Nat.le_refl _) (Nat.le_trans (by simp) hb'.size) hp2) (by omega))
theorem owns_take {w : World} {base : Nat} {e : TypeId} {size g n cap : Nat} {xs : List Value} (h : w.ownsRow base e size (.slice (some ⟨g, 0, none⟩) n cap) n xs) (k : Nat) (hk : k ≤ n) : w.ownsRow base e size (.slice (some ⟨g, 0, none⟩) k cap) k (xs.take (k * size)) := by
  obtain ⟨h1, h2⟩ := h
  have hm : k * size ≤ n * size := Nat.mul_le_mul_right _ hk
  refine ⟨by rw [List.length_take, h1]; omega, ?_⟩
  rcases h2 with ⟨h2, _⟩ | ⟨g', cap', cur, e1, hb, hg, hn, hc, hs, ht⟩
  · cases h2
  · injection e1 with e1 e2 e3
    injection e1 with e1; injection e1 with e1
    subst e1; subst e3
    refine Or.inr ⟨g, cap, cur, rfl, hb, hg, by omega, hc, hs, ?_⟩
    rw [← ht, List.take_take, Nat.min_eq_left hm]
theorem flat_take {α : Type} (f : α → List Value) (n : Nat) (hf : ∀ x, (f x).length = n) (l : List α) : ∀ k, (l.flatMap f).take (k * n) = (l.take k).flatMap f := by
  induction l with
  | nil => intro k; simp
  | cons x r ih =>
    intro k
    cases k with
    | zero => simp
    | succ k =>
      rw [List.flatMap_cons, List.take_succ_cons, List.flatMap_cons, Nat.succ_mul, Nat.add_comm, List.take_append, hf, show n + k * n - n = k * n from by omega, ih k, List.take_of_length_le (by rw [hf]; omega)]
theorem flat_drop {α : Type} (f : α → List Value) (n : Nat) (hf : ∀ x, (f x).length = n) (l : List α) : ∀ k, (l.flatMap f).drop (k * n) = (l.drop k).flatMap f := by
  induction l with
  | nil => intro k; simp
  | cons x r ih =>
    intro k
    cases k with
    | zero => simp
    | succ k =>
      rw [List.flatMap_cons, List.drop_succ_cons, Nat.succ_mul, Nat.add_comm, List.drop_append, hf, show n + k * n - n = k * n from by omega, ih k, List.drop_eq_nil_of_le (by rw [hf]; omega)]; rfl
set_option maxRecDepth 100000 in
theorem down_none (a : Option Addr) (c : Nat) (w : World) : Calls Try.prog 90 #[.slice a 0 c, .int .i64 0] w fun e w' => e = .returned (.tuple #[]) ∧ w = w' := by
  go_enter Try.func90, Try.ntmps90
  go_wp2_with fail
  refine wp_loop_rounds 1 ?_
  rw [rounds_succ]
  go_wp2_with fail
  refine wp_loop_rounds 1 ?_
  rw [rounds_succ]
  go_wp2_with fail
  go_returns
  exact ⟨rfl, rfl⟩
theorem owns_some {w : World} {base : Nat} {e : TypeId} {size : Nat} {v : Value} {n : Nat} {xs : List Value} (h : w.ownsRow base e size v n xs) (hn : 0 < n) : ∃ g c, v = .slice (some ⟨g, 0, none⟩) n c ∧ base ≤ g ∧ g < w.heap.size ∧ n ≤ c := by
  rcases h.2 with ⟨_, h0⟩ | ⟨g, cap, cur, e, h1, h3, h2, _⟩
  · omega
  · refine ⟨g, cap, e, h1, ?_, h2⟩
    rcases Nat.lt_or_ge g w.heap.size with h | h
    · exact h
    · rw [Array.getElem?_eq_none h] at h3; cases h3
theorem rest_len (r : It) (t : List It) : (Hp.rest itLt (r :: t)).length = t.length := by
  unfold Hp.rest
  rw [List.getLast?_eq_some_getLast (by simp)]
  simp only [down_len]; simp
theorem down_all (g cap : Nat) (l : List It) (w : World) (base : Nat) (h : w.ownsRow base 38 5 (.slice (some ⟨g, 0, none⟩) l.length cap) l.length (l.flatMap itV) ∧ l.length ≤ 1000000) :
    Calls Try.prog 90 #[.slice (some ⟨g, 0, none⟩) l.length cap, .int .i64 0] w fun e w' => e = .returned (.tuple #[]) ∧ OwnPost base 38 (.slice (some ⟨g, 0, none⟩) l.length cap) l.length (Hp.down itLt l 0) w w' := by
  rcases Nat.eq_zero_or_pos l.length with h0 | h0
  · have e := List.eq_nil_of_length_eq_zero h0
    subst e
    refine (down_none _ cap w).mono fun e w' ⟨h1, h2⟩ => ⟨h1, ?_⟩
    subst h2
    rw [Hp.down_stop (by simp [Hp.best, Hp.pick])]
    exact ⟨h.1, World.grownBy.refl _ _⟩
  · exact down_any _ l 0 w base h.1 h.2 h0
theorem pre_len (r z : It) (t : List It) : (((r :: t).set 0 z).take t.length).length = t.length := by simp
theorem owns_pre {w : World} {base : Nat} {e : TypeId} {g n cap : Nat} {r z : It} {t : List It} (h : w.ownsRow base e 5 (.slice (some ⟨g, 0, none⟩) n cap) n (((r :: t).set 0 z).flatMap itV)) (hn : n = (r :: t).length) (hl : t.length ≤ 100000) :
    w.ownsRow base e 5 (.slice (some ⟨g, 0, none⟩) (((r :: t).set 0 z).take t.length).length cap) (((r :: t).set 0 z).take t.length).length ((((r :: t).set 0 z).take t.length).flatMap itV) ∧ (((r :: t).set 0 z).take t.length).length ≤ 1000000 := by
  rw [pre_len]
  have := owns_take h t.length (by rw [hn]; simp)
  rw [flat_take itV 5 itV_len] at this
  exact ⟨this, by omega⟩
theorem rest_eq {r z : It} {t : List It} (h : (r :: t)[t.length]? = some z) : Hp.rest itLt (r :: t) = Hp.down itLt (((r :: t).set 0 z).take t.length) 0 := by
  unfold Hp.rest
  rw [List.getLast?_eq_getElem?]
  simp only [List.length_cons, Nat.add_sub_cancel]
  rw [h]
theorem gcell {w w1 w2 : World} {g : Nat} (h : w.grownBy w1 (some g)) (h2 : w1.grownBy w2 (some g)) : (∀ b o, b < w.heap.size → b ≠ g → w2.cell? ⟨b, o, none⟩ = w.cell? ⟨b, o, none⟩) ∧ (∀ b o, b < w.heap.size → b ≠ g → w2.frozen? ⟨b, o, none⟩ = w.frozen? ⟨b, o, none⟩) := by
  have h3 := h.trans h2
  exact ⟨fun b o hb hne => World.cell?_of_block (a := ⟨b, o, none⟩) (h3.block b hb (fun e => hne (by injection e))), fun b o hb hne => World.frozen?_of_block (a := ⟨b, o, none⟩) (h3.block b hb (fun e => hne (by injection e)))⟩
/-- what Pop gives of a heap that has a first -/
def GivesPop (w : World) (r : It) (l : List It) (e : Ending) (w' : World) : Prop := ∃ v, e = .returned (.tuple #[.agg #[.int .i64 r.key, .bool r.en.ad.v6, .int .u64 r.en.ad.hi, .int .u64 r.en.ad.lo, .int .i64 r.en.port], v, .bool true]) ∧ w'.ownsRow w.heap.size 38 5 v l.length (l.flatMap itV) ∧ Below w.heap.size w w'
theorem pop_none (v : Value) (w : World) (h : ReadsL itV 5 w v []) : Calls Try.prog 39 #[v] w fun e w' => e = .returned (.tuple #[.agg #[.int .i64 0, .bool false, .int .u64 0, .int .u64 0, .int .i64 0], .slice none 0 0, .bool false]) ∧ Below w.heap.size w w' := by
  obtain ⟨hm, a, c, rfl, h3⟩ := it_open h
  clear h h3
  go_enter Try.func39, Try.ntmps39
  go_wp2_with fail
  go_returns
  exact ⟨rfl, by go_grown⟩
set_option maxRecDepth 100000 in
theorem pop_some (v : Value) (r : It) (t : List It) (w : World) (h : ReadsL itV 5 w v (r :: t)) (hl : t.length ≤ 100000) : Calls Try.prog 39 #[v] w (GivesPop w r (Hp.rest itLt (r :: t))) := by
  have HC := Lib.hid (fun w' (b : Below w.heap.size w w') => cloneIt_any v (r :: t) w' (h.below b) (by simp; omega))
  obtain ⟨hm, a, c, rfl, h3⟩ := it_open h
  obtain ⟨b, o, rfl, h4, h5, h6⟩ := h3 (by simp)
  have hr := h6 0 r rfl
  rw [Nat.zero_mul, Nat.add_zero] at hr
  clear h h3 h6
  simp only [List.length_cons] at h4 hm HC ⊢
  have z0 : w.heap.size < w.heap.size + 1 := by omega
  obtain ⟨z, hz⟩ : ∃ z, (r :: t)[t.length]? = some z := ⟨_, List.getElem?_eq_getElem (by simp)⟩
  have HZ := Lib.hid hz; clear hz
  have q1 : (0 : Int) ≤ (t.length : Int) := by omega
  have q2 : (t.length : Int) < (t.length : Int) + 1 := by omega
  go_enter Try.func39, Try.ntmps39
  go_wp2_with fail
  refine (HC.out _ (by go_grown)).mono ?_
  rintro e w1 ⟨v1, rfl, hown, hb⟩
  obtain ⟨g, sc, rfl, hg1, hg2, hg3⟩ := owns_some hown (by simp)
  obtain ⟨c1, f1⟩ := bcell hb
  obtain ⟨r0, r1, r2, r3, r4⟩ := own_it hown (i := 0) (x := r) rfl
  obtain ⟨y0, y1, y2, y3, y4⟩ := own_it hown HZ.out
  simp only [Nat.zero_mul, Nat.zero_add] at r0 r1 r2 r3 r4
  have ff := fun j => hown.frozenAt j
  have hz := hb.size
  have hg4 : t.length ≤ sc := by simp at hg3; omega
  have hset := own_set5 hown 0 z (by simp)
  simp only [Nat.zero_mul, Nat.zero_add] at hset
  have hs := down_all g sc _ _ _ (owns_pre hset.1 rfl hl)
  rw [pre_len] at hs
  have HS := Lib.hid hs
  have HG := Lib.hid hset.2
  clear hown hset hs
  go_wp2_with fail
  refine HS.out.mono ?_
  rintro e w2 ⟨rfl, hp1, hp2⟩
  have hB2 := hb.grown (row := some g) (HG.out.trans hp2) hz (fun k hk => by injection hk with hk; omega)
  obtain ⟨c2, f2⟩ := bcell hB2
  obtain ⟨a0, a1, a2, a3, a4⟩ := itAt_below (itAt_below hr ((Below.refl w.heap.size w).alloc (Nat.le_refl _) (.cells #[.int .i64 0, .bool false, .int .u64 0, .int .u64 0, .int .i64 0] 38)) h5) hB2 (by simp; omega)
  have HP := Lib.hid hp1; have HB2 := Lib.hid hB2; clear hp1 hp2 hB2
  have d0 := c2 w.heap.size 0 (by simp)
  have d1 := c2 w.heap.size 1 (by simp)
  have d2 := c2 w.heap.size 2 (by simp)
  have d3 := c2 w.heap.size 3 (by simp)
  have d4 := c2 w.heap.size 4 (by simp)
  have fd := fun o => f2 w.heap.size o (by simp)
  clear c2 f2 c1 f1 hb HS HG y0 y1 y2 y3 y4 r0 r1 r2 r3 r4 ff
  simp only []
  go_at_K
  go_wp2_with fail
  refine bodyPost_ret (v := .tuple #[.agg #[.int .i64 r.key, .bool r.en.ad.v6, .int .u64 r.en.ad.hi, .int .u64 r.en.ad.lo, .int .i64 r.en.port], .slice (some ⟨g, 0, none⟩) t.length sc, .bool true]) (by simp [results, Try.results39, go_sem, d0, d1, d2, d3, d4]) rfl ?_
  refine ⟨_, rfl, ?_, ?_⟩
  · rw [rest_len, rest_eq HZ.out]
    refine owns_base (base := w.heap.size + 1) ?_ (by omega)
    refine ownsRow_setCell_below (ownsRow_setCell_below (ownsRow_setCell_below (ownsRow_setCell_below (ownsRow_setCell_below ?_ ?_ _) ?_ _) ?_ _) ?_ _) ?_ _
    · have := HP.out; simp only [World.size_alloc] at this; exact this
    all_goals (show w.heap.size < w.heap.size + 1; omega)
  · have hb3 : Below w.heap.size w w2 := Below.trans ((Below.refl _ _).alloc (Nat.le_refl _) _) (HB2.out.mono (by simp))
    clear d0 d1 d2 d3 d4 fd HB2 HP
    go_grown
end Go.Proofs.Ytppmjbnhghaffaa
