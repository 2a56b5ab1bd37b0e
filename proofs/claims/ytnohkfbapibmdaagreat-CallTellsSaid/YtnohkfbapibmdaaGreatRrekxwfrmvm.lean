/- Texts put together: Ip6S, Ip6W, Ip6R, Own. No condition. -/
import Derived.Test.YtnohkfbapibmdaaGreatRmlfvpeuuqj
import Derived.Test.YtnohkfbapibmdaaGreatRwqesxugwwq
import Derived.Test.YtnohkfbapibmdaaGreatRuxbrltbtbp
import Derived.Test.YtnohkfbapibmdaaGreatRows
import Derived.WalkKit
import Derived.WalkSpells
import Derived.WalkLawsBesides
import Derived.BigGuardPart
import Derived.BigQuiet
import Derived.Deep.QuietTactic
import Derived.Deep.Light
import Derived.OwnWalk
import Derived.Test.YtnohkfbapibmdaaGreatRtcfsoujgbz
namespace Go.Proofs.YtnohkfbapibmdaaGreat
open Go.RowKit


/-- what a search for a text asks of the world -/
def Cpu (w : World) : Prop := ∃ m, w.cell? ⟨0, 0, none⟩ = some (.int .i64 m)
theorem Cpu.below {w w' : World} (h : Cpu w) (hb : Below w.heap.size w w') : Cpu w' := by
  obtain ⟨m, hm⟩ := h
  have : 0 < w.heap.size := World.block_lt_of_cell? w ⟨0, 0, none⟩ hm
  exact ⟨m, keep hb this hm⟩
theorem idxGap (s : ByteArray) (w : World) (hs : s.size ≤ 4000000000) (hc : Cpu w) :
    Calls Tryz.prog 93 #[.string s, .string ⟨#[58, 58]⟩] w fun e w' => e = .returned (.int .i64 (gapI s.data.toList)) ∧ w = w' := by
  obtain ⟨m, hm⟩ := hc
  refine (Tryz.strings_Index s ⟨#[58, 58]⟩ m w (by omega) hm).mono fun e w' ⟨h1, h2⟩ => ⟨?_, h2.symm⟩
  rw [h1]; congr 2; exact index_gap _
theorem fourP_le {may : Bool} {L : List (List UInt8)} {a g : List Nat} (h : fourP may L a = some g) (ha : a.length ≤ 8) : g.length ≤ 10 := by
  induction L generalizing a with
  | nil => simp [fourP] at h; subst h; omega
  | cons p r ih =>
    unfold fourP at h
    split at h
    · simp at h; subst h; simp; omega
    · split at h
      · cases h
      · rename_i h2
        exact ih h (by simp; omega)
theorem fourL_le {may : Bool} {l : List UInt8} {g : List Nat} (h : fourL may l = some g) : g.length ≤ 10 := by
  unfold fourL at h
  split at h
  · cases h; simp
  · exact fourP_le h (by simp)
/-- a row made behind another one reads as it did when that one has grown -/
theorem kept_reads {w w1 w2 w3 : World} {e : TypeId} {size n m : Nat} {v u : Value} {xs ys : List Value} (h1 : w1.ownsRow w.heap.size e size v n xs) (h2 : w2.ownsRow w1.heap.size e size u m ys) (_hb : Below w1.heap.size w1 w2) (_hz : w.heap.size ≤ w1.heap.size) (hg : w2.grownBy w3 v.ownBlock) : Reads w3 u m size ys := by
  refine owns_reads (h2.kept hg ?_)
  cases hu : u.ownBlock with
  | none => exact Or.inl rfl
  | some k =>
    refine Or.inr fun hk => ?_
    have a := (h2.lt k hu).1
    have b := (h1.lt k hk.symm).2
    omega
theorem owns_at {w : World} {base n size : Nat} {e : TypeId} {v : Value} {xs : List Value} (hn : 0 < n) (h : w.ownsRow base e size v n xs) : ∃ b c, (n ≤ c ∧ c ≤ 9223372036854775807) ∧ v = .slice (some ⟨b, 0, none⟩) n c := by
  rcases h.2 with ⟨rfl, h0⟩ | ⟨g, cap, cur, rfl, _, _, hc, hm, _⟩
  · omega
  · exact ⟨g, cap, ⟨hc, by unfold maxLen at hm; omega⟩, rfl⟩
theorem u16Zero : (Tryz.prog.info? 113).map (fun i => (i.zero, i.size, i.bytes)) = some (some (.int .u16 0), 1, 2) := by kernel_rfl
set_option maxRecDepth 100000 in
set_option maxHeartbeats 2000000 in
theorem spread_any (s : ByteArray) (w : World) (hs : s.size ≤ 4000000000) (hc : Cpu w) :
    Calls Tryz.prog 98 #[.string s] w (GivesU16 w (spreadL s.data.toList)) := by
  have hx := idxGap s w hs hc
  have hr0 : spreadL s.data.toList = match gapO s.data.toList with
    | none => fourL true s.data.toList
    | some i => match fourL false (s.data.toList.take i), fourL true (s.data.toList.drop (i + 2)) with
      | some a, some b => if 8 ≤ a.length + b.length then none else some (a ++ List.replicate (8 - a.length - b.length) 0 ++ b)
      | _, _ => none := rfl
  cases hg : gapO s.data.toList with
  | none =>
    rw [hg] at hr0; simp only at hr0
    have e : gapI s.data.toList = -1 := by unfold gapI; rw [hg]
    rw [e] at hx
    have H4 := Lib.hid (fun w => four_any s true w (by omega)); have HX := Lib.hid hx; have HR := Lib.hid hr0; clear hx e hr0 hg
    go_enter Tryz.func98, Tryz.ntmps98
    go_wp2_with (first | (go_at_call 93; refine HX.out.mono ?_; rintro e w1 ⟨rfl, rfl⟩) | (go_at_call 113; refine (H4.out _).mono ?_; rintro e w1 ⟨v, rfl, ho, hb⟩))
    go_ret2
    exact ⟨v, by rw [HR.out]; rfl, by rw [HR.out]; exact ho, hb⟩
  | some i =>
    rw [hg] at hr0; simp only at hr0
    obtain ⟨_, _, hi⟩ := gapO_some hg
    rw [len_data] at hi
    have e : gapI s.data.toList = i := by unfold gapI; rw [hg]
    rw [e] at hx
    have e1 : s.extract 0 i = bs (s.data.toList.take i) := extract_take s i
    have e2 : s.extract (i + 2) s.size = bs (s.data.toList.drop (i + 2)) := extract_drop s (i + 2)
    have l1 : (bs (s.data.toList.take i)).size ≤ 8000000000000 := by rw [bs_size]; simp; omega
    have l2 : (bs (s.data.toList.drop (i + 2))).size ≤ 8000000000000 := by rw [bs_size]; simp; omega
    have h4a := fun w => four_any (bs (s.data.toList.take i)) false w l1
    have h4b := fun w => four_any (bs (s.data.toList.drop (i + 2))) true w l2
    simp only [bs_data] at h4a h4b
    rw [← e1] at h4a; rw [← e2] at h4b
    have la := @fourL_le false (s.data.toList.take i)
    have lb := @fourL_le true (s.data.toList.drop (i + 2))
    generalize fourL false (s.data.toList.take i) = ra at hr0 h4a la
    generalize fourL true (s.data.toList.drop (i + 2)) = rb at hr0 h4b lb
    have HX := Lib.hid hx; have HR := Lib.hid hr0; have H4a := Lib.hid h4a; have H4b := Lib.hid h4b; clear hx e hr0 hg e1 e2 l1 l2 h4a h4b
    have q1 : (0 : Int) ≤ (i : Int) := by omega
    have q2 : (i : Int) ≤ (s.size : Int) := by omega
    have q3 : IntKind.i64.wrap ((i : Int) + 2) = (i : Int) + 2 := IntWalk.i64_in _ (by omega)
    have q4 : (i : Int) + 2 ≤ (s.size : Int) := by omega
    have q5 : ((i : Int) + 2).toNat = i + 2 := by omega
    have q6 : (0 : Int) ≤ (i : Int) + 2 := by omega
    cases ra with
    | none =>
      have hres : Hid (spreadL s.data.toList = none) := by unfold Hid; rw [HR.out]
      go_enter Tryz.func98, Tryz.ntmps98
      go_wp2_with (first | (go_at_call 93; refine HX.out.mono ?_; rintro e w1 ⟨rfl, rfl⟩) | (go_at_call 113; (with_reducible refine (H4a.out _).mono ?_); rintro e w1 ⟨v, rfl, ho, hb⟩) | (go_at_call 113; (with_reducible refine (H4b.out _).mono ?_); rintro e w2 ⟨v2, rfl, ho2, hb2⟩))
      go_ret2
      exact gives16_none hres.out (below2 hb hb2)
    | some a =>
      cases rb with
      | none =>
        have hres : Hid (spreadL s.data.toList = none) := by unfold Hid; rw [HR.out]
        go_enter Tryz.func98, Tryz.ntmps98
        go_wp2_with (first | (go_at_call 93; refine HX.out.mono ?_; rintro e w1 ⟨rfl, rfl⟩) | (go_at_call 113; (with_reducible refine (H4a.out _).mono ?_); rintro e w1 ⟨v, rfl, ho, hb⟩) | (go_at_call 113; (with_reducible refine (H4b.out _).mono ?_); rintro e w2 ⟨v2, rfl, ho2, hb2⟩))
        go_ret2
        exact gives16_none hres.out (below2 hb hb2)
      | some b =>
        by_cases h8 : 8 ≤ a.length + b.length
        · have hres : Hid (spreadL s.data.toList = none) := by unfold Hid; rw [HR.out]; simp only; rw [if_pos h8]
          have h8i : (8 : Int) ≤ (a.length : Int) + (b.length : Int) := by omega
          have la := la rfl
          have lb := lb rfl
          go_enter Tryz.func98, Tryz.ntmps98
          go_wp2_with (first | (go_at_call 93; refine HX.out.mono ?_; rintro e w1 ⟨rfl, rfl⟩) | (go_at_call 113; (with_reducible refine (H4a.out _).mono ?_); rintro e w1 ⟨v, rfl, ho, hb⟩; simp only [Option.getD_some] at ho; obtain ⟨sa, sc, rfl⟩ := owns_slice ho) | (go_at_call 113; (with_reducible refine (H4b.out _).mono ?_); rintro e w2 ⟨v2, rfl, ho2, hb2⟩; simp only [Option.getD_some] at ho2; obtain ⟨sa2, sc2, rfl⟩ := owns_slice ho2))
          go_ret2
          exact gives16_none hres.out (below2 hb hb2)
        · have hres : Hid (spreadL s.data.toList = some (a ++ List.replicate (8 - a.length - b.length) 0 ++ b)) := by unfold Hid; rw [HR.out]; simp only; rw [if_neg h8]
          have h8i : ¬ (8 : Int) ≤ (a.length : Int) + (b.length : Int) := by omega
          have la := la rfl
          have lb := lb rfl
          have e8 : (8 : Int) - (a.length : Int) - (b.length : Int) = ((8 - a.length - b.length : Nat) : Int) := by omega
          go_enter Tryz.func98, Tryz.ntmps98
          go_wp2_with (first | (go_at_call 93; refine HX.out.mono ?_; rintro e w1 ⟨rfl, rfl⟩) | (go_at_call 113; (with_reducible refine (H4a.out _).mono ?_); rintro e w1 ⟨v, rfl, ho, hb⟩; simp only [Option.getD_some] at ho; obtain ⟨sa, sc, rfl⟩ := owns_slice ho) | (go_at_call 113; (with_reducible refine (H4b.out _).mono ?_); rintro e w2 ⟨v2, rfl, ho2, hb2⟩; simp only [Option.getD_some] at ho2; obtain ⟨sa2, sc2, rfl⟩ := owns_slice ho2; have hz := hb.size; have hz2 := hb2.size) | (at_builtin; refine list_app_zeros rfl (.tmp 46) (.tmp 52) rfl Tryz.underlying107 Tryz.underlying3 u16Zero rfl rfl w.heap.size _ a.length (a.map uv) rfl (owns_below ho hb2) (8 - a.length - b.length) rfl (by omega) (by omega) (by omega) (by omega) w.heap.size w (below2 hb hb2) (Nat.le_refl _) ?_; intro v3 w3 ho3 hb3 hg3; have hr2 := kept_reads ho ho2 hb2 hz hg3) | (at_builtin; refine list_app_reads u16Row rfl (.tmp 53) (.tmp 54) rfl w.heap.size _ _ _ rfl ho3 _ _ _ rfl hr2 (uv_one _) (by omega) (by omega) (by have := hb3.size; omega) w.heap.size w hb3 (Nat.le_refl _) ?_; intro v4 w4 ho4 hb4))
          go_ret2
          refine gives16 hres.out ?_ hb4
          have e9 : a.length + (8 - a.length - b.length) + b.length = (a ++ List.replicate (8 - a.length - b.length) 0 ++ b).length := by simp; omega
          rw [← e9]
          simpa [uv] using ho4

theorem Reads.take {w : World} {v : Value} {n : Nat} {xs : List Value} {k : Nat} {a : Option Addr} {c c' : Nat} (h : Reads w v n 1 xs) (hv : v = .slice a n c) (hk : k ≤ n) : Reads w (.slice a k c') k 1 (xs.take k) ∨ c' < k := by
  obtain ⟨h1, h2, h3⟩ := h
  by_cases hc : c' < k
  · exact Or.inr hc
  · refine Or.inl ⟨by simp; omega, by omega, ?_⟩
    rcases h3 with ⟨h0, a', c2, hv'⟩ | ⟨hp, b, o, c2, hv', hc2, hlt, hx⟩
    · exact Or.inl ⟨by omega, a, c', by rw [show k = 0 from by omega]⟩
    · rw [hv] at hv'; cases hv'
      by_cases h0 : k = 0
      · subst h0; exact Or.inl ⟨rfl, _, _, rfl⟩
      · refine Or.inr ⟨by omega, b, o, c', rfl, by omega, hlt, fun j x hj => hx j x ?_⟩
        rw [List.getElem?_take] at hj; split at hj
        · exact hj
        · cases hj
theorem Reads.drop {w : World} {b o n c : Nat} {xs : List Value} {k : Nat} {c' : Nat} (h : Reads w (.slice (some ⟨b, o, none⟩) n c) n 1 xs) (hk : k ≤ n) (hc : n - k ≤ c') : Reads w (.slice (some ⟨b, o + k, none⟩) (n - k) c') (n - k) 1 (xs.drop k) := by
  obtain ⟨h1, h2, h3⟩ := h
  refine ⟨by clear h3; rw [List.length_drop, h1]; omega, by omega, ?_⟩
  by_cases h0 : n - k = 0
  · rw [h0]; exact Or.inl ⟨rfl, _, _, rfl⟩
  · rcases h3 with ⟨h0, a', c2, hv'⟩ | ⟨hp, b', o', c2, hv', hc2, hlt, hx⟩
    · omega
    · cases hv'
      refine Or.inr ⟨by omega, b, o + k, c', rfl, hc, hlt, fun j x hj => ?_⟩
      rw [Nat.add_assoc]
      exact hx (k + j) x (by rw [List.getElem?_drop] at hj; exact hj)
set_option maxRecDepth 100000 in
set_option maxHeartbeats 2000000 in
theorem v6Parse_any (s : ByteArray) (w : World) (hs : s.size ≤ 4000000000) (hc : Cpu w) :
    Calls Tryz.prog 73 #[.string s] w fun e w' => e = .returned (.tuple #[.int .u64 (v6parse s.data.toList).1, .int .u64 (v6parse s.data.toList).2.1, .bool (v6parse s.data.toList).2.2]) ∧ Below w.heap.size w w' := by
  have hsp := spread_any s w hs hc
  have hr0 : v6parse s.data.toList = match spreadL s.data.toList with
    | none => (0, 0, false)
    | some g => if g.length = 8 then (numL (g.take 4), numL (g.drop 4), true) else (0, 0, false) := rfl
  have hlt := @spread_lt s.data.toList
  generalize spreadL s.data.toList = r at hsp hr0 hlt
  cases r with
  | none =>
    simp only at hr0
    have HSP := Lib.hid hsp; have HR := Lib.hid hr0; clear hsp hr0 hlt
    go_enter Tryz.func73, Tryz.ntmps73
    go_wp2_with (go_at_call 98; refine HSP.out.mono ?_; rintro e w1 ⟨v, rfl, ho, hb⟩)
    go_ret3
    exact ⟨by rw [HR.out]; rfl, hb⟩
  | some g =>
    simp only at hr0
    have hlt := hlt rfl
    by_cases h8 : g.length = 8
    · rw [if_pos h8] at hr0
      have HSP := Lib.hid hsp; have HR := Lib.hid hr0; have HL := Lib.hid hlt; clear hsp hr0 hlt
      go_enter Tryz.func73, Tryz.ntmps73
      have hq : ((g.length : Int) != 8) = false := by rw [h8]; rfl
      go_wp2_with (go_at_call 98; refine HSP.out.mono ?_; rintro e w1 ⟨v, rfl, ho, hb⟩; simp only [Option.getD_some, h8] at ho; have hrd := owns_reads ho; obtain ⟨blk, cap, hcap, rfl⟩ := owns_at (by omega) ho)
      have r1 : Reads w1 (.slice (some ⟨blk, 0, none⟩) 4 cap) 4 1 ((g.take 4).map uv) := by
        rcases hrd.take (k := 4) (c' := cap) rfl (by omega) with h | h
        · rwa [← List.map_take] at h
        · omega
      have r2 : Reads w1 (.slice (some ⟨blk, 4, none⟩) 4 (cap - 4)) 4 1 ((g.drop 4).map uv) := by
        have h := hrd.drop (k := 4) (c' := cap - 4) (by omega) (by omega)
        rw [← List.map_drop] at h; simpa using h
      have n1 := fun x => number_any _ (g.take 4) (ext w1 x) (by simp; omega) (fun y hy => HL.out y (List.mem_of_mem_take hy)) (by have := r1.below (ext_below w1 x); rw [show (g.take 4).length = 4 from by simp; omega]; exact this)
      have n2 := fun x => number_any _ (g.drop 4) (ext w1 x) (by simp; omega) (fun y hy => HL.out y (List.mem_of_mem_drop hy)) (by have := r2.below (ext_below w1 x); rw [show (g.drop 4).length = 4 from by simp; omega]; exact this)
      have N1 := Lib.hid n1; have N2 := Lib.hid n2; clear n1 n2 r1 r2 hrd
      refine wp_region_ext (by kernel_rfl) (by kernel_rfl) ?_
      repeat (go_big_quiet_step ((go_at_call 99; first | (with_reducible exact qs (N1.out _)) | (with_reducible exact qs (N2.out _)))))
      refine wpQuiet_nil ?_
      intro _ hw'
      obtain ⟨x, hw''⟩ := hw'
      subst hw''
      go_wp2_with fail
      go_ret3
      exact ⟨by rw [HR.out]; rfl, below2 hb (ext_below _ _)⟩
    · rw [if_neg h8] at hr0
      have HSP := Lib.hid hsp; have HR := Lib.hid hr0; clear hsp hr0 hlt
      have hq : ((g.length : Int) != 8) = true := by rw [bne_iff_ne]; omega
      go_enter Tryz.func73, Tryz.ntmps73
      go_wp2_with (go_at_call 98; refine HSP.out.mono ?_; rintro e w1 ⟨v, rfl, ho, hb⟩; simp only [Option.getD_some] at ho; obtain ⟨sa, sc, rfl⟩ := owns_slice ho)
      go_ret3
      exact ⟨by rw [HR.out]; rfl, hb⟩
end Go.Proofs.YtnohkfbapibmdaaGreat
namespace Go.Proofs.YtnohkfbapibmdaaGreat
open Go.RowKit

/-- the groups of an address, of each half the first k -/
def allAt (hi lo k : Nat) : List Nat := (List.range 8).map fun j => if j % 4 < k then (grps hi lo)[j]! else 0
theorem block_set2 {w : World} {B C : Nat} {arr : List Value} {T : TypeId} (h : BlockIs w B arr T) (hc : C ≠ B) {i j : Nat} (u v : Value) : BlockIs ((w.setCell ⟨C, i, none⟩ u).setCell ⟨C, j, none⟩ v) B arr T := (h.other hc u).other hc v
set_option maxRecDepth 100000 in
set_option maxHeartbeats 2000000 in
theorem all_any (hi lo : Nat) (h1 : hi < 18446744073709551616) (h2 : lo < 18446744073709551616) (w : World) :
    Calls Tryz.prog 103 #[.int .u64 hi, .int .u64 lo] w fun e w' => e = .returned (.agg ((grps hi lo).map uv).toArray) ∧ Below w.heap.size w w' := by
  have a1 : bits .and .u64 ((hi : Int) / 281474976710656) 65535 = (hi : Int) / 281474976710656 % 65536 := by rw [show ((hi : Int) / 281474976710656) = ((hi / 281474976710656 : Nat) : Int) from by omega]; exact and16_u64 _ (by omega)
  have a2 : bits .and .u64 ((hi : Int) / 4294967296) 65535 = (hi : Int) / 4294967296 % 65536 := by rw [show ((hi : Int) / 4294967296) = ((hi / 4294967296 : Nat) : Int) from by omega]; exact and16_u64 _ (by omega)
  have a3 : bits .and .u64 ((hi : Int) / 65536) 65535 = (hi : Int) / 65536 % 65536 := by rw [show ((hi : Int) / 65536) = ((hi / 65536 : Nat) : Int) from by omega]; exact and16_u64 _ (by omega)
  have a4 := and16_u64 hi (by omega)
  have b1 : bits .and .u64 ((lo : Int) / 281474976710656) 65535 = (lo : Int) / 281474976710656 % 65536 := by rw [show ((lo : Int) / 281474976710656) = ((lo / 281474976710656 : Nat) : Int) from by omega]; exact and16_u64 _ (by omega)
  have b2 : bits .and .u64 ((lo : Int) / 4294967296) 65535 = (lo : Int) / 4294967296 % 65536 := by rw [show ((lo : Int) / 4294967296) = ((lo / 4294967296 : Nat) : Int) from by omega]; exact and16_u64 _ (by omega)
  have b3 : bits .and .u64 ((lo : Int) / 65536) 65535 = (lo : Int) / 65536 % 65536 := by rw [show ((lo : Int) / 65536) = ((lo / 65536 : Nat) : Int) from by omega]; exact and16_u64 _ (by omega)
  have b4 := and16_u64 lo (by omega)
  go_enter Tryz.func103, Tryz.ntmps103
  go_wp2_with fail
  go_loopw [8] (fun i wr => ∃ (k : Nat), k ≤ 4 ∧ i = .int .i64 k ∧ Below w.heap.size w wr ∧ Hid (BlockIs wr w.heap.size (List.replicate 8 (uv 0)) 114) ∧ Hid (BlockIs wr (w.heap.size + 1) ((allAt hi lo k).map uv) 114)) (fun i _ => (4 - intOf i).toNat)
  case atStart => 
    refine ⟨0, Nat.zero_le _, rfl, ((Below.refl _ _).alloc (Nat.le_refl _) _).alloc (by simp) _, ?_, ?_⟩
    · exact (BlockIs.new w _ _).below ((Below.refl _ _).alloc (Nat.le_refl _) _)
    · have := BlockIs.new (w.alloc (.cells (List.replicate 8 (uv 0)).toArray 114)) ((allAt hi lo 0).map uv) 114
      have e : (w.alloc (.cells (List.replicate 8 (uv 0)).toArray 114)).heap.size = w.heap.size + 1 := by simp
      rw [e] at this; exact this
  case round =>
    obtain ⟨k, hk, rfl, hb, HA, HB⟩ := hrel
    by_cases hk4 : k = 4
    · subst hk4
      have cc : ∀ j v, ((grps hi lo).map uv)[j]? = some v → wr.cell? ⟨w.heap.size + 1, j, none⟩ = some v := fun j v h => HB.out.cell h
      have c0 := cc 0 _ rfl
      have c1 := cc 1 _ rfl
      have c2 := cc 2 _ rfl
      have c3 := cc 3 _ rfl
      have c4 := cc 4 _ rfl
      have c5 := cc 5 _ rfl
      have c6 := cc 6 _ rfl
      have c7 := cc 7 _ rfl
      have ff := HA.out.frozen
      have dd : ∀ j, j < 8 → wr.cell? ⟨w.heap.size, j, none⟩ = some (uv 0) := fun j h => HA.out.cell (by rw [List.getElem?_replicate, if_pos h])
      have f0 := ff 0; have f1 := ff 1; have f2 := ff 2; have f3 := ff 3; have f4 := ff 4; have f5 := ff 5; have f6 := ff 6; have f7 := ff 7
      have d0 := dd 0 (by omega); have d1 := dd 1 (by omega); have d2 := dd 2 (by omega); have d3 := dd 3 (by omega); have d4 := dd 4 (by omega); have d5 := dd 5 (by omega); have d6 := dd 6 (by omega); have d7 := dd 7 (by omega)
      simp only [uv] at c0 c1 c2 c3 c4 c5 c6 c7
      clear cc dd ff a1 a2 a3 a4 b1 b2 b3 b4
      go_wp2_with fail
      have HF := (((((((HA.out.set 0 (.int .u16 ((hi : Int) / 281474976710656))).set 1 (.int .u16 ((hi : Int) / 4294967296 % 65536))).set 2 (.int .u16 ((hi : Int) / 65536 % 65536))).set 3 (.int .u16 ((hi : Int) % 65536))).set 4 (.int .u16 ((lo : Int) / 281474976710656))).set 5 (.int .u16 ((lo : Int) / 4294967296 % 65536))).set 6 (.int .u16 ((lo : Int) / 65536 % 65536))).set 7 (.int .u16 ((lo : Int) % 65536))
      try simp only [Exit.inBlock, Exit.then]
      refine bodyPost_ret (results_cell rfl rfl (HF.load Tryz.underlying114 (by kernel_rfl))) rfl ⟨ret_of ?_, ?_⟩
      · rfl
      · exact (((((((hb.setCell (Nat.le_refl _) _).setCell (Nat.le_refl _) _).setCell (Nat.le_refl _) _).setCell (Nat.le_refl _) _).setCell (Nat.le_refl _) _).setCell (Nat.le_refl _) _).setCell (Nat.le_refl _) _).setCell (Nat.le_refl _) _
    · have HN := Lib.hid hb
      rcases (by omega : k = 0 ∨ k = 1 ∨ k = 2 ∨ k = 3) with rfl | rfl | rfl | rfl
      · have c0 := HB.out.cell (i := 0) rfl
        have c1 := HB.out.cell (i := 4) rfl
        have f0 := HB.out.frozen 0
        have f1 := HB.out.frozen 4
        have hlt := HB.out.lt
        go_wp2_with fail
        refine ⟨⟨1, by omega, rfl, (hb.setCell (by simp) _).setCell (by simp) _, block_set2 HA.out (by omega) _ _, ?_⟩, by simp [intOf]⟩
        have e1 : Value.int .u16 ((hi : Int) / 281474976710656 % 65536) = uv (hi / 281474976710656) := by unfold uv; congr 1 <;> omega
        have e2 : Value.int .u16 ((lo : Int) / 281474976710656 % 65536) = uv (lo / 281474976710656) := by unfold uv; congr 1 <;> omega
        rw [e1, e2]
        exact (HB.out.set 0 _).set 4 _
      · have c0 := HB.out.cell (i := 1) rfl
        have c1 := HB.out.cell (i := 5) rfl
        have f0 := HB.out.frozen 1
        have f1 := HB.out.frozen 5
        have hlt := HB.out.lt
        go_wp2_with fail
        refine ⟨⟨2, by omega, rfl, (hb.setCell (by simp) _).setCell (by simp) _, block_set2 HA.out (by omega) _ _, ?_⟩, by simp [intOf]⟩
        have e1 : Value.int .u16 ((hi : Int) / 4294967296 % 65536) = uv (hi / 4294967296 % 65536) := by unfold uv; congr 1 <;> omega
        have e2 : Value.int .u16 ((lo : Int) / 4294967296 % 65536) = uv (lo / 4294967296 % 65536) := by unfold uv; congr 1 <;> omega
        rw [e1, e2]
        exact (HB.out.set 1 _).set 5 _
      · have c0 := HB.out.cell (i := 2) rfl
        have c1 := HB.out.cell (i := 6) rfl
        have f0 := HB.out.frozen 2
        have f1 := HB.out.frozen 6
        have hlt := HB.out.lt
        go_wp2_with fail
        refine ⟨⟨3, by omega, rfl, (hb.setCell (by simp) _).setCell (by simp) _, block_set2 HA.out (by omega) _ _, ?_⟩, by simp [intOf]⟩
        have e1 : Value.int .u16 ((hi : Int) / 65536 % 65536) = uv (hi / 65536 % 65536) := by unfold uv; congr 1 <;> omega
        have e2 : Value.int .u16 ((lo : Int) / 65536 % 65536) = uv (lo / 65536 % 65536) := by unfold uv; congr 1 <;> omega
        rw [e1, e2]
        exact (HB.out.set 2 _).set 6 _
      · have c0 := HB.out.cell (i := 3) rfl
        have c1 := HB.out.cell (i := 7) rfl
        have f0 := HB.out.frozen 3
        have f1 := HB.out.frozen 7
        have hlt := HB.out.lt
        go_wp2_with fail
        refine ⟨⟨4, by omega, rfl, (hb.setCell (by simp) _).setCell (by simp) _, block_set2 HA.out (by omega) _ _, ?_⟩, by simp [intOf]⟩
        have e1 : Value.int .u16 ((hi : Int) % 65536) = uv (hi % 65536) := by unfold uv; congr 1 <;> omega
        have e2 : Value.int .u16 ((lo : Int) % 65536) = uv (lo % 65536) := by unfold uv; congr 1 <;> omega
        rw [e1, e2]
        exact (HB.out.set 3 _).set 7 _
end Go.Proofs.YtnohkfbapibmdaaGreat
namespace Go.Proofs.YtnohkfbapibmdaaGreat
open Go.RowKit

theorem zc_drop {g : List Nat} {j : Nat} (h : j < g.length) : zc (g.drop j) = if g.getD j 0 = 0 then zc (g.drop (j + 1)) + 1 else 0 := by
  rw [List.drop_eq_getElem_cons h, show g.getD j 0 = g[j] from by simp [List.getD, h]]; rfl
theorem runK_le (g : List Nat) (h8 : g.length = 8) (k : Nat) : (runK g k).2 ≤ 8 := by
  induction k with
  | zero => exact Nat.zero_le _
  | succ k ih =>
    rw [runK_succ]; unfold runStep
    split
    · rename_i h
      have := zc_le (g.drop k)
      rw [List.length_drop, h8] at this
      simp only; omega
    · exact ih
set_option maxRecDepth 100000 in
set_option maxHeartbeats 2000000 in
theorem run_any (g : List Nat) (h8 : g.length = 8) (hg : ∀ x ∈ g, x < 65536) (w : World) :
    Calls Tryz.prog 104 #[.agg (g.map uv).toArray] w fun e w' => e = .returned (.tuple #[.int .i64 (runL g).1, .int .i64 (runL g).2]) ∧ Below w.heap.size w w' := by
  have hbl := BlockIs.new w (g.map uv) 114
  have hcc : ∀ (j : Nat), j < 8 → (w.alloc (.cells (g.map uv).toArray 114)).cell? ⟨w.heap.size, j, none⟩ = some (.int .u16 (g.getD j 0)) := fun j h => hbl.cell (by rw [List.getElem?_map, List.getElem?_eq_getElem (by omega), show g.getD j 0 = g[j]'(by omega) from by simp [List.getD, h8, h]]; rfl)
  have HC := Lib.hid hcc; have H8 := Lib.hid h8; have HG := Lib.hid hg; clear hcc hbl hg
  generalize hL : (g.map uv).toArray = L at *
  have hLs : L.size = 8 := by rw [← hL]; simp [h8]
  have HL := Lib.hid hL; clear hL h8
  go_enter Tryz.func104, Tryz.ntmps104
  go_wp2_with fail
  go_loop [4, 2, 3] (fun i f t => ∃ k : Nat, k ≤ 8 ∧ i = .int .i64 k ∧ f = .int .i64 (runK g k).1 ∧ t = .int .i64 (runK g k).2) (fun i _ _ => 8 - (intOf i).toNat)
  case atStart => exact ⟨0, Nat.zero_le _, rfl, rfl, rfl⟩
  case round =>
    obtain ⟨k, hk, rfl, rfl, rfl⟩ := hrel
    by_cases hk2 : k < 8
    · have hko := runK_ok g k
      have hks := runK_succ g k
      have hft := runK_le g H8.out k
      unfold runStep at hks
      have hzl : zc (g.drop k) ≤ 8 - k := by have := zc_le (g.drop k); have := H8.out; simp at *; omega
      generalize runK g k = r at *
      generalize hz : zc (g.drop k) = z at *
      obtain ⟨f, t⟩ := r
      simp only at hft hko
      have hfl := hko.1
      have HKO := Lib.hid hko; have HKS := Lib.hid hks; have HZ := Lib.hid hz; clear hko hks hz
      go_wp2_with fail
      go_loop [5] (fun x => ∃ j : Nat, k ≤ j ∧ j ≤ 8 ∧ x = .int .i64 j ∧ Hid (j + zc (g.drop j) = k + z)) (fun x => 8 - (intOf x).toNat)
      case atStart => exact ⟨k, Nat.le_refl _, by omega, rfl, by unfold Hid; rw [HZ.out]⟩
      case round =>
        obtain ⟨j, hj, hj8, rfl, HJ⟩ := hrel
        by_cases hj2 : j < 8
        · have c1 := HC.out j hj2
          have hzd := zc_drop (g := g) (j := j) (by rw [H8.out]; exact hj2)
          generalize g.getD j 0 = x at *
          by_cases hx : x = 0
          · have hq : ((x : Int) == 0) = true := by rw [hx]; rfl
            have HX := Lib.hid hx; have HZD := Lib.hid hzd; clear hx hzd
            go_wp2_with fail
            go_round
            case rel => exact ⟨j + 1, by omega, by omega, by go_num, by have := HJ.out; have h2 := HZD.out; rw [if_pos HX.out] at h2; unfold Hid; omega⟩
            case measure => simp [intOf]; omega
          · have hq : ((x : Int) == 0) = false := by rw [beq_eq_false_iff_ne]; omega
            have hjz : j = k + z := by have := HJ.out; rw [hzd, if_neg hx] at this; omega
            clear hx hzd
            by_cases hlt : t - f < z
            · have hks : Hid (runK g (k + 1) = (k, k + z)) := by unfold Hid; rw [HKS.out, if_pos hlt]
              have q1 : (t : Int) - (f : Int) < (j : Int) - (k : Int) := by omega
              have HJZ := Lib.hid hjz
              clear HKS HKO hlt hjz
              go_wp2_with fail
              go_round
              case rel => exact ⟨k + 1, by omega, by go_num, by rw [hks.out], by rw [hks.out, HJZ.out]⟩
              case measure => simp [intOf]; omega
              all_goals (exfalso; omega)
            · have hks : Hid (runK g (k + 1) = (f, t)) := by unfold Hid; rw [HKS.out, if_neg hlt]
              have q1 : ¬ (t : Int) - (f : Int) < (j : Int) - (k : Int) := by omega
              have HJZ := Lib.hid hjz
              clear HKS HKO hlt hjz
              go_wp2_with fail
              go_round
              case rel => exact ⟨k + 1, by omega, by go_num, by rw [hks.out], by rw [hks.out]⟩
              case measure => simp [intOf]; omega
              all_goals (exfalso; omega)
        · have hjz : j = k + z := by
            have := HJ.out
            rw [List.drop_eq_nil_of_le (by have := H8.out; omega)] at this; simp [zc] at this; omega
          by_cases hlt : t - f < z
          · have hks : Hid (runK g (k + 1) = (k, k + z)) := by unfold Hid; rw [HKS.out, if_pos hlt]
            have q1 : (t : Int) - (f : Int) < (j : Int) - (k : Int) := by omega
            have HJZ := Lib.hid hjz
            clear HKS HKO hlt hjz
            go_wp2_with fail
            go_round
            case rel => exact ⟨k + 1, by omega, by go_num, by rw [hks.out], by rw [hks.out, HJZ.out]⟩
            case measure => simp [intOf]; omega
          · have hks : Hid (runK g (k + 1) = (f, t)) := by unfold Hid; rw [HKS.out, if_neg hlt]
            have q1 : ¬ (t : Int) - (f : Int) < (j : Int) - (k : Int) := by omega
            have HJZ := Lib.hid hjz
            clear HKS HKO hlt hjz
            go_wp2_with fail
            go_round
            case rel => exact ⟨k + 1, by omega, by go_num, by rw [hks.out], by rw [hks.out]⟩
            case measure => simp [intOf]; omega
    · obtain rfl : k = 8 := by omega
      go_wp2_with fail
      go_ret2
      exact ⟨rfl, (Below.refl _ _).alloc (Nat.le_refl _) _⟩

theorem hex_dig (m : Nat) (w : World) (h : m < 65536) : Calls Tryz.prog 115 #[.int .i64 m] w fun e w' => e = .returned (.string (bs (hexs m))) ∧ Below w.heap.size w w' := by
  have := decHex_any (m : Int) w
  unfold hexText at this; rw [if_neg (by omega)] at this; simpa using this
set_option maxRecDepth 100000 in
set_option maxHeartbeats 2000000 in
theorem written_any (v : Value) (L : List Nat) (w : World) (h8 : L.length ≤ 8) (hL : ∀ g ∈ L, g < 65536) (hv : Reads w v L.length 1 (L.map uv)) :
    Calls Tryz.prog 105 #[v] w fun e w' => e = .returned (.string (bs (hexJ L))) ∧ Below w.heap.size w w' := by
  obtain ⟨_, _, a, c, rfl, hx⟩ := hv.open
  have HX := Lib.hid hx; have HL := Lib.hid hL; clear hx hL hv
  go_enter Tryz.func105, Tryz.ntmps105
  go_wp2_with fail
  go_loopw [8, 3] (fun i x wr => ∃ k : Nat, k ≤ L.length ∧ i = .int .i64 k ∧ Below w.heap.size w wr ∧ Hid (wr.ownsRow w.heap.size 9 1 x k (((L.take k).map hexs).map sv))) (fun i _ _ => L.length - (intOf i).toNat)
  case atStart => exact ⟨0, Nat.zero_le _, rfl, Below.refl _ _, World.ownsRow_nil _ _ _ _⟩
  case round =>
    obtain ⟨k, hk, rfl, hb, HO⟩ := hrel
    have hown := HO.out
    have hz := hb.size
    by_cases hk2 : k < L.length
    · obtain ⟨b, o, rfl, h1, h2, h3⟩ := HX.out (by omega)
      have c1 : wr.cell? ⟨b, o + k, none⟩ = some (.int .u16 L[k]) := keep hb h2 (h3 k _ (by rw [List.getElem?_map, List.getElem?_eq_getElem hk2]; rfl))
      have hg := HL.out _ (List.getElem_mem hk2)
      have htk : (L.take (k + 1)).map hexs = (L.take k).map hexs ++ [hexs L[k]] := by rw [List.take_succ_eq_append_getElem hk2, List.map_append]; rfl
      generalize L[k] = g at *
      have HH := Lib.hid (fun w => hex_dig g w hg)
      have H3 := Lib.hid h3; have HTK := Lib.hid htk; clear h3 htk
      go_wp2_with (first | (go_at_call 115; refine (HH.out _).mono ?_; rintro e w2 ⟨rfl, b2⟩) | (at_builtin; refine list_app strRow rfl (.tmp 12) (.tmp 16) rfl w.heap.size _ k _ rfl (owns_below hown b2) [_] rfl rfl rfl (by omega) (by omega) (by have := b2.size; omega) w.heap.size w (below2 hb b2) (Nat.le_refl _) ?_; intro v' w' hown' hb'))
      go_roundw
      case rel => exact ⟨k + 1, by omega, by go_num, hb', by unfold Hid; rw [HTK.out]; simpa [sv] using hown'⟩
      case measure => simp [intOf]; omega
    · have e : L.take k = L := List.take_of_length_le (by omega)
      obtain rfl : k = L.length := by omega
      rw [e] at hown
      have hjl : (hexJ L).length ≤ 40 := by have := hexJ_len L HL.out; omega
      have hjo := join_any _ (L.map hexs) 58 wr (by simp; omega) (by rw [List.length_map]; exact owns_reads hown) (by show (hexJ L).length ≤ _; omega)
      have HJ := Lib.hid hjo; clear hjo e
      go_wp2_with (go_at_call 62; refine HJ.out.mono ?_; rintro e w2 ⟨rfl, b2⟩)
      go_ret
      exact ⟨rfl, below2 hb b2⟩
end Go.Proofs.YtnohkfbapibmdaaGreat
namespace Go.Proofs.YtnohkfbapibmdaaGreat
open Go.RowKit

/-- a block that a call has laid is a row of its own -/
theorem owns_block {w : World} {base g : Nat} {arr : List Value} {T : TypeId} (h : BlockIs w g arr T) (hb : base ≤ g) (hn : arr.length ≤ 1000) : w.ownsRow base T 1 (.slice (some ⟨g, 0, none⟩) arr.length arr.length) arr.length arr :=
  ⟨by omega, Or.inr ⟨g, arr.length, arr.toArray, rfl, hb, h, Nat.le_refl _, by unfold maxLen; omega, by simp, by simp⟩⟩
theorem owns_one {w : World} {base g : Nat} {x : List UInt8} {T : TypeId} (h : BlockIs w g [.string (bs x)] T) (hb : base ≤ g) : w.ownsRow base T 1 (.slice (some ⟨g, 0, none⟩) 1 1) 1 ([x].map sv) := owns_block (arr := [.string (bs x)]) h hb (by simp)
theorem row_of {v : Value} {n : Nat} {xs : List Value} {l : List (List UInt8)} {W : World} (h : Reads W v n 1 xs) (hn : n = l.length) (hx : xs = l.map sv) (hN : l.length ≤ 140737488355328) (hl : (joinL 32 l).length ≤ 140737488355328) :
    Calls Tryz.prog 30 #[v] W fun e w' => e = .returned (.string (bs (joinL 32 l))) ∧ Below W.heap.size W w' := by subst hn; subst hx; exact row_any v l W hN h hl
end Go.Proofs.YtnohkfbapibmdaaGreat
