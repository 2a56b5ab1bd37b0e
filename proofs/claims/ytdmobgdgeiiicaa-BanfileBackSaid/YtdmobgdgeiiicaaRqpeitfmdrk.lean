/- Texts put together: Ip6S. No condition. -/
import Derived.Test.YtdmobgdgeiiicaaRxhgaavhwdl
import Derived.Test.YtdmobgdgeiiicaaRbipgpgiebm
import Derived.Test.YtdmobgdgeiiicaaRnbjaihuuye
import Derived.Test.YtdmobgdgeiiicaaRlfwwfwvjdf
import Derived.Test.YtdmobgdgeiiicaaRows
import Derived.WalkKit
import Derived.WalkSpells
import Derived.WalkLawsBesides
import Derived.BigGuardPart
import Derived.BigQuiet
import Derived.Deep.QuietTactic
import Derived.Deep.Light
import Derived.OwnWalk
namespace Go.Proofs.Ytdmobgdgeiiicaa
open Go.RowKit


/-- what a search for a text asks of the world -/
def Cpu (w : World) : Prop := ∃ m, w.cell? ⟨0, 0, none⟩ = some (.int .i64 m)
theorem Cpu.below {w w' : World} (h : Cpu w) (hb : Below w.heap.size w w') : Cpu w' := by
  obtain ⟨m, hm⟩ := h
  have : 0 < w.heap.size := World.block_lt_of_cell? w ⟨0, 0, none⟩ hm
  exact ⟨m, keep hb this hm⟩
theorem idxGap (s : ByteArray) (w : World) (hs : s.size ≤ 4000000000) (hc : Cpu w) :
    Calls Try.prog 93 #[.string s, .string ⟨#[58, 58]⟩] w fun e w' => e = .returned (.int .i64 (gapI s.data.toList)) ∧ w = w' := by
  obtain ⟨m, hm⟩ := hc
  refine (Try.strings_Index s ⟨#[58, 58]⟩ m w (by omega) hm).mono fun e w' ⟨h1, h2⟩ => ⟨?_, h2.symm⟩
  rw [h1]; congr 2; exact index_gap _
theorem fourP_le {may : Bool} {L : List (List UInt8)} {a g : List Nat} (h : fourP may L a = some g) (ha : a.length ≤ 8) : g.length ≤ 10 := by
  induction L generalizing a with
  | nil => simp [fourP] at h; subst h; omega
  | cons p r ih =>
    unfold fourP at h
    split at h
    · simp at h; subst h; simp; omega
    · split at h
      · cases h
      · rename_i h2
        exact ih h (by simp; omega)
theorem fourL_le {may : Bool} {l : List UInt8} {g : List Nat} (h : fourL may l = some g) : g.length ≤ 10 := by
  unfold fourL at h
  split at h
  · cases h; simp
  · exact fourP_le h (by simp)
/-- a row made behind another one reads as it did when that one has grown -/
theorem kept_reads {w w1 w2 w3 : World} {e : TypeId} {size n m : Nat} {v u : Value} {xs ys : List Value} (h1 : w1.ownsRow w.heap.size e size v n xs) (h2 : w2.ownsRow w1.heap.size e size u m ys) (_hb : Below w1.heap.size w1 w2) (_hz : w.heap.size ≤ w1.heap.size) (hg : w2.grownBy w3 v.ownBlock) : Reads w3 u m size ys := by
  refine owns_reads (h2.kept hg ?_)
  cases hu : u.ownBlock with
  | none => exact Or.inl rfl
  | some k =>
    refine Or.inr fun hk => ?_
    have a := (h2.lt k hu).1
    have b := (h1.lt k hk.symm).2
    omega
theorem owns_at {w : World} {base n size : Nat} {e : TypeId} {v : Value} {xs : List Value} (hn : 0 < n) (h : w.ownsRow base e size v n xs) : ∃ b c, (n ≤ c ∧ c ≤ 9223372036854775807) ∧ v = .slice (some ⟨b, 0, none⟩) n c := by
  rcases h.2 with ⟨rfl, h0⟩ | ⟨g, cap, cur, rfl, _, _, hc, hm, _⟩
  · omega
  · exact ⟨g, cap, ⟨hc, by unfold maxLen at hm; omega⟩, rfl⟩
theorem u16Zero : (Try.prog.info? 124).map (fun i => (i.zero, i.size, i.bytes)) = some (some (.int .u16 0), 1, 2) := by kernel_rfl
set_option maxRecDepth 100000 in
set_option maxHeartbeats 2000000 in
theorem spread_any (s : ByteArray) (w : World) (hs : s.size ≤ 4000000000) (hc : Cpu w) :
    Calls Try.prog 75 #[.string s] w (GivesU16 w (spreadL s.data.toList)) := by
  have hx := idxGap s w hs hc
  have hr0 : spreadL s.data.toList = match gapO s.data.toList with
    | none => fourL true s.data.toList
    | some i => match fourL false (s.data.toList.take i), fourL true (s.data.toList.drop (i + 2)) with
      | some a, some b => if 8 ≤ a.length + b.length then none else some (a ++ List.replicate (8 - a.length - b.length) 0 ++ b)
      | _, _ => none := rfl
  cases hg : gapO s.data.toList with
  | none =>
    rw [hg] at hr0; simp only at hr0
    have e : gapI s.data.toList = -1 := by unfold gapI; rw [hg]
    rw [e] at hx
    have H4 := Lib.hid (fun w => four_any s true w (by omega)); have HX := Lib.hid hx; have HR := Lib.hid hr0; clear hx e hr0 hg
    go_enter Try.func75, Try.ntmps75
    go_wp2_with (first | (go_at_call 93; refine HX.out.mono ?_; rintro e w1 ⟨rfl, rfl⟩) | (go_at_call 103; refine (H4.out _).mono ?_; rintro e w1 ⟨v, rfl, ho, hb⟩))
    go_ret2
    exact ⟨v, by rw [HR.out]; rfl, by rw [HR.out]; exact ho, hb⟩
  | some i =>
    rw [hg] at hr0; simp only at hr0
    obtain ⟨_, _, hi⟩ := gapO_some hg
    rw [len_data] at hi
    have e : gapI s.data.toList = i := by unfold gapI; rw [hg]
    rw [e] at hx
    have e1 : s.extract 0 i = bs (s.data.toList.take i) := extract_take s i
    have e2 : s.extract (i + 2) s.size = bs (s.data.toList.drop (i + 2)) := extract_drop s (i + 2)
    have l1 : (bs (s.data.toList.take i)).size ≤ 8000000000000 := by rw [bs_size]; simp; omega
    have l2 : (bs (s.data.toList.drop (i + 2))).size ≤ 8000000000000 := by rw [bs_size]; simp; omega
    have h4a := fun w => four_any (bs (s.data.toList.take i)) false w l1
    have h4b := fun w => four_any (bs (s.data.toList.drop (i + 2))) true w l2
    simp only [bs_data] at h4a h4b
    rw [← e1] at h4a; rw [← e2] at h4b
    have la := @fourL_le false (s.data.toList.take i)
    have lb := @fourL_le true (s.data.toList.drop (i + 2))
    generalize fourL false (s.data.toList.take i) = ra at hr0 h4a la
    generalize fourL true (s.data.toList.drop (i + 2)) = rb at hr0 h4b lb
    have HX := Lib.hid hx; have HR := Lib.hid hr0; have H4a := Lib.hid h4a; have H4b := Lib.hid h4b; clear hx e hr0 hg e1 e2 l1 l2 h4a h4b
    have q1 : (0 : Int) ≤ (i : Int) := by omega
    have q2 : (i : Int) ≤ (s.size : Int) := by omega
    have q3 : IntKind.i64.wrap ((i : Int) + 2) = (i : Int) + 2 := IntWalk.i64_in _ (by omega)
    have q4 : (i : Int) + 2 ≤ (s.size : Int) := by omega
    have q5 : ((i : Int) + 2).toNat = i + 2 := by omega
    have q6 : (0 : Int) ≤ (i : Int) + 2 := by omega
    cases ra with
    | none =>
      have hres : Hid (spreadL s.data.toList = none) := by unfold Hid; rw [HR.out]
      go_enter Try.func75, Try.ntmps75
      go_wp2_with (first | (go_at_call 93; refine HX.out.mono ?_; rintro e w1 ⟨rfl, rfl⟩) | (go_at_call 103; (with_reducible refine (H4a.out _).mono ?_); rintro e w1 ⟨v, rfl, ho, hb⟩) | (go_at_call 103; (with_reducible refine (H4b.out _).mono ?_); rintro e w2 ⟨v2, rfl, ho2, hb2⟩))
      go_ret2
      exact gives16_none hres.out (below2 hb hb2)
    | some a =>
      cases rb with
      | none =>
        have hres : Hid (spreadL s.data.toList = none) := by unfold Hid; rw [HR.out]
        go_enter Try.func75, Try.ntmps75
        go_wp2_with (first | (go_at_call 93; refine HX.out.mono ?_; rintro e w1 ⟨rfl, rfl⟩) | (go_at_call 103; (with_reducible refine (H4a.out _).mono ?_); rintro e w1 ⟨v, rfl, ho, hb⟩) | (go_at_call 103; (with_reducible refine (H4b.out _).mono ?_); rintro e w2 ⟨v2, rfl, ho2, hb2⟩))
        go_ret2
        exact gives16_none hres.out (below2 hb hb2)
      | some b =>
        by_cases h8 : 8 ≤ a.length + b.length
        · have hres : Hid (spreadL s.data.toList = none) := by unfold Hid; rw [HR.out]; simp only; rw [if_pos h8]
          have h8i : (8 : Int) ≤ (a.length : Int) + (b.length : Int) := by omega
          have la := la rfl
          have lb := lb rfl
          go_enter Try.func75, Try.ntmps75
          go_wp2_with (first | (go_at_call 93; refine HX.out.mono ?_; rintro e w1 ⟨rfl, rfl⟩) | (go_at_call 103; (with_reducible refine (H4a.out _).mono ?_); rintro e w1 ⟨v, rfl, ho, hb⟩; simp only [Option.getD_some] at ho; obtain ⟨sa, sc, rfl⟩ := owns_slice ho) | (go_at_call 103; (with_reducible refine (H4b.out _).mono ?_); rintro e w2 ⟨v2, rfl, ho2, hb2⟩; simp only [Option.getD_some] at ho2; obtain ⟨sa2, sc2, rfl⟩ := owns_slice ho2))
          go_ret2
          exact gives16_none hres.out (below2 hb hb2)
        · have hres : Hid (spreadL s.data.toList = some (a ++ List.replicate (8 - a.length - b.length) 0 ++ b)) := by unfold Hid; rw [HR.out]; simp only; rw [if_neg h8]
          have h8i : ¬ (8 : Int) ≤ (a.length : Int) + (b.length : Int) := by omega
          have la := la rfl
          have lb := lb rfl
          have e8 : (8 : Int) - (a.length : Int) - (b.length : Int) = ((8 - a.length - b.length : Nat) : Int) := by omega
          go_enter Try.func75, Try.ntmps75
          go_wp2_with (first | (go_at_call 93; refine HX.out.mono ?_; rintro e w1 ⟨rfl, rfl⟩) | (go_at_call 103; (with_reducible refine (H4a.out _).mono ?_); rintro e w1 ⟨v, rfl, ho, hb⟩; simp only [Option.getD_some] at ho; obtain ⟨sa, sc, rfl⟩ := owns_slice ho) | (go_at_call 103; (with_reducible refine (H4b.out _).mono ?_); rintro e w2 ⟨v2, rfl, ho2, hb2⟩; simp only [Option.getD_some] at ho2; obtain ⟨sa2, sc2, rfl⟩ := owns_slice ho2; have hz := hb.size; have hz2 := hb2.size) | (at_builtin; refine list_app_zeros rfl (.tmp 46) (.tmp 52) rfl Try.underlying106 Try.underlying3 u16Zero rfl rfl w.heap.size _ a.length (a.map uv) rfl (owns_below ho hb2) (8 - a.length - b.length) rfl (by omega) (by omega) (by omega) (by omega) w.heap.size w (below2 hb hb2) (Nat.le_refl _) ?_; intro v3 w3 ho3 hb3 hg3; have hr2 := kept_reads ho ho2 hb2 hz hg3) | (at_builtin; refine list_app_reads u16Row rfl (.tmp 53) (.tmp 54) rfl w.heap.size _ _ _ rfl ho3 _ _ _ rfl hr2 (uv_one _) (by omega) (by omega) (by have := hb3.size; omega) w.heap.size w hb3 (Nat.le_refl _) ?_; intro v4 w4 ho4 hb4))
          go_ret2
          refine gives16 hres.out ?_ hb4
          have e9 : a.length + (8 - a.length - b.length) + b.length = (a ++ List.replicate (8 - a.length - b.length) 0 ++ b).length := by simp; omega
          rw [← e9]
          simpa [uv] using ho4

theorem Reads.take {w : World} {v : Value} {n : Nat} {xs : List Value} {k : Nat} {a : Option Addr} {c c' : Nat} (h : Reads w v n 1 xs) (hv : v = .slice a n c) (hk : k ≤ n) : Reads w (.slice a k c') k 1 (xs.take k) ∨ c' < k := by
  obtain ⟨h1, h2, h3⟩ := h
  by_cases hc : c' < k
  · exact Or.inr hc
  · refine Or.inl ⟨by simp; omega, by omega, ?_⟩
    rcases h3 with ⟨h0, a', c2, hv'⟩ | ⟨hp, b, o, c2, hv', hc2, hlt, hx⟩
    · exact Or.inl ⟨by omega, a, c', by rw [show k = 0 from by omega]⟩
    · rw [hv] at hv'; cases hv'
      by_cases h0 : k = 0
      · subst h0; exact Or.inl ⟨rfl, _, _, rfl⟩
      · refine Or.inr ⟨by omega, b, o, c', rfl, by omega, hlt, fun j x hj => hx j x ?_⟩
        rw [List.getElem?_take] at hj; split at hj
        · exact hj
        · cases hj
theorem Reads.drop {w : World} {b o n c : Nat} {xs : List Value} {k : Nat} {c' : Nat} (h : Reads w (.slice (some ⟨b, o, none⟩) n c) n 1 xs) (hk : k ≤ n) (hc : n - k ≤ c') : Reads w (.slice (some ⟨b, o + k, none⟩) (n - k) c') (n - k) 1 (xs.drop k) := by
  obtain ⟨h1, h2, h3⟩ := h
  refine ⟨by clear h3; rw [List.length_drop, h1]; omega, by omega, ?_⟩
  by_cases h0 : n - k = 0
  · rw [h0]; exact Or.inl ⟨rfl, _, _, rfl⟩
  · rcases h3 with ⟨h0, a', c2, hv'⟩ | ⟨hp, b', o', c2, hv', hc2, hlt, hx⟩
    · omega
    · cases hv'
      refine Or.inr ⟨by omega, b, o + k, c', rfl, hc, hlt, fun j x hj => ?_⟩
      rw [Nat.add_assoc]
      exact hx (k + j) x (by rw [List.getElem?_drop] at hj; exact hj)
set_option maxRecDepth 100000 in
set_option maxHeartbeats 2000000 in
theorem v6Parse_any (s : ByteArray) (w : World) (hs : s.size ≤ 4000000000) (hc : Cpu w) :
    Calls Try.prog 45 #[.string s] w fun e w' => e = .returned (.tuple #[.int .u64 (v6parse s.data.toList).1, .int .u64 (v6parse s.data.toList).2.1, .bool (v6parse s.data.toList).2.2]) ∧ Below w.heap.size w w' := by
  have hsp := spread_any s w hs hc
  have hr0 : v6parse s.data.toList = match spreadL s.data.toList with
    | none => (0, 0, false)
    | some g => if g.length = 8 then (numL (g.take 4), numL (g.drop 4), true) else (0, 0, false) := rfl
  have hlt := @spread_lt s.data.toList
  generalize spreadL s.data.toList = r at hsp hr0 hlt
  cases r with
  | none =>
    simp only at hr0
    have HSP := Lib.hid hsp; have HR := Lib.hid hr0; clear hsp hr0 hlt
    go_enter Try.func45, Try.ntmps45
    go_wp2_with (go_at_call 75; refine HSP.out.mono ?_; rintro e w1 ⟨v, rfl, ho, hb⟩)
    go_ret3
    exact ⟨by rw [HR.out]; rfl, hb⟩
  | some g =>
    simp only at hr0
    have hlt := hlt rfl
    by_cases h8 : g.length = 8
    · rw [if_pos h8] at hr0
      have HSP := Lib.hid hsp; have HR := Lib.hid hr0; have HL := Lib.hid hlt; clear hsp hr0 hlt
      go_enter Try.func45, Try.ntmps45
      have hq : ((g.length : Int) != 8) = false := by rw [h8]; rfl
      go_wp2_with (go_at_call 75; refine HSP.out.mono ?_; rintro e w1 ⟨v, rfl, ho, hb⟩; simp only [Option.getD_some, h8] at ho; have hrd := owns_reads ho; obtain ⟨blk, cap, hcap, rfl⟩ := owns_at (by omega) ho)
      have r1 : Reads w1 (.slice (some ⟨blk, 0, none⟩) 4 cap) 4 1 ((g.take 4).map uv) := by
        rcases hrd.take (k := 4) (c' := cap) rfl (by omega) with h | h
        · rwa [← List.map_take] at h
        · omega
      have r2 : Reads w1 (.slice (some ⟨blk, 4, none⟩) 4 (cap - 4)) 4 1 ((g.drop 4).map uv) := by
        have h := hrd.drop (k := 4) (c' := cap - 4) (by omega) (by omega)
        rw [← List.map_drop] at h; simpa using h
      have n1 := fun x => number_any _ (g.take 4) (ext w1 x) (by simp; omega) (fun y hy => HL.out y (List.mem_of_mem_take hy)) (by have := r1.below (ext_below w1 x); rw [show (g.take 4).length = 4 from by simp; omega]; exact this)
      have n2 := fun x => number_any _ (g.drop 4) (ext w1 x) (by simp; omega) (fun y hy => HL.out y (List.mem_of_mem_drop hy)) (by have := r2.below (ext_below w1 x); rw [show (g.drop 4).length = 4 from by simp; omega]; exact this)
      have N1 := Lib.hid n1; have N2 := Lib.hid n2; clear n1 n2 r1 r2 hrd
      refine wp_region_ext (by kernel_rfl) (by kernel_rfl) ?_
      repeat (go_big_quiet_step ((go_at_call 76; first | (with_reducible exact qs (N1.out _)) | (with_reducible exact qs (N2.out _)))))
      refine wpQuiet_nil ?_
      intro _ hw'
      obtain ⟨x, hw''⟩ := hw'
      subst hw''
      go_wp2_with fail
      go_ret3
      exact ⟨by rw [HR.out]; rfl, below2 hb (ext_below _ _)⟩
    · rw [if_neg h8] at hr0
      have HSP := Lib.hid hsp; have HR := Lib.hid hr0; clear hsp hr0 hlt
      have hq : ((g.length : Int) != 8) = true := by rw [bne_iff_ne]; omega
      go_enter Try.func45, Try.ntmps45
      go_wp2_with (go_at_call 75; refine HSP.out.mono ?_; rintro e w1 ⟨v, rfl, ho, hb⟩; simp only [Option.getD_some] at ho; obtain ⟨sa, sc, rfl⟩ := owns_slice ho)
      go_ret3
      exact ⟨by rw [HR.out]; rfl, hb⟩
end Go.Proofs.Ytdmobgdgeiiicaa
