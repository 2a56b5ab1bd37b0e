/- Texts put together: Crowd, CrowdB, CrowdC, LawCrowd. No condition. -/
import Derived.Test.YtppmjbnhghaffaaMap
import Derived.Test.YtppmjbnhghaffaaQ768469ebvdfs
import Derived.Test.YtppmjbnhghaffaaPeM
import Derived.Test.YtppmjbnhghaffaaPlCrowd
import Derived.Test.YtppmjbnhghaffaaQa02d1egtjqlk
import Derived.Carry
/- Crowds: the keys, and the count of each group. Conditions: numbers are 64 bits. -/
namespace Go.Proofs.Ytppmjbnhghaffaa
open Go.RowKit

theorem laidC : laidOutB Try.prog = true := by kernel_rfl
theorem netRow : (92 : TypeId) < Try.prog.types.size := of_decide_eq_true (by kernel_rfl)
theorem netKeyed : Maps.Keyed Try.prog 92 := Maps.Keyed.of_law (deep_law_laid laidC (m := 4) (by omega) netRow (by kernel_rfl) (by rw [Try.underlying92]))
def klN (e : Nt) : Lit := .string (keyBytes [.bool e.ad.v6, .int .u64 e.ad.hi, .int .u64 e.ad.lo, .int .i64 e.bits])
def Nt.okC (e : Nt) : Prop := e.ad.fits ∧ -9223372036854775808 ≤ e.bits ∧ e.bits ≤ 9223372036854775807
theorem wf_u64 (n : Nat) (h : n < 18446744073709551616) : (Lit.int .u64 (n : Int)).wf = true := by
  simp [Lit.wf, IntKind.min, IntKind.max, IntKind.signed, IntKind.bits]; omega
theorem wf_i64 (n : Int) (h : -9223372036854775808 ≤ n ∧ n ≤ 9223372036854775807) : (Lit.int .i64 n).wf = true := by
  simp [Lit.wf, IntKind.min, IntKind.max, IntKind.signed, IntKind.bits]; omega
theorem keyType_net : Try.prog.keyType 92 = true := by kernel_rfl
theorem cells_net : Try.prog.cellsOf 92 = 4 := by kernel_rfl
theorem cells_addr : Try.prog.cellsOf 32 = 3 := by kernel_rfl
theorem cells_u64 : Try.prog.cellsOf 30 = 1 := by kernel_rfl
theorem cells_int : Try.prog.cellsOf 3 = 1 := by kernel_rfl
theorem cells_bool : Try.prog.cellsOf 4 = 1 := by kernel_rfl
theorem size_more : ∃ m, Try.prog.types.size + 1 = m + 3 := ⟨Try.prog.types.size - 2, by have : (2 : Nat) < Try.prog.types.size := of_decide_eq_true (by kernel_rfl); omega⟩
theorem net_key (e : Nt) (h : e.okC) : keyOf Try.prog 92 (.agg #[.bool e.ad.v6, .int .u64 e.ad.hi, .int .u64 e.ad.lo, .int .i64 e.bits]) = some (klN e) := by
  obtain ⟨⟨h1, h2⟩, h3⟩ := h
  obtain ⟨m, hm⟩ := size_more
  unfold keyOf
  rw [Try.underlying92]
  simp only [keyType_net]
  rw [if_pos (by simp [Value.formed, Try.underlying92, cells_net]), hm]
  have w1 := wf_u64 e.ad.hi h1; have w2 := wf_u64 e.ad.lo h2; have w3 := wf_i64 e.bits h3
  simp [Program.keyLits, Try.underlying92, Try.underlying32, Try.underlying30, Try.underlying3, Try.underlying4, cells_net, cells_addr, cells_u64, cells_int, cells_bool, Value.cells, w1, w2, w3, klN]
  rw [if_pos (by decide)]; rfl
theorem klN_inj {a b : Nt} (ha : a.okC) (hb : b.okC) (h : klN a = klN b) : a = b := by
  have := netKeyed.inj (net_key a ha) (h ▸ net_key b hb)
  simp at this
  obtain ⟨e1, e2, e3, e4⟩ := this
  exact Nt.ext' (Ad.ext' e1 (by omega) (by omega)) e4
theorem grOf_ok (a : Ad) (h : a.fits) : (grOf a).okC := by
  refine ⟨grOf_fits a h, ?_⟩
  cases hr : adRight a with
  | false => rw [grOf_bad a hr]; decide
  | true =>
    rw [grOf_good a hr]
    show -9223372036854775808 ≤ grBits a ∧ grBits a ≤ 9223372036854775807
    unfold grBits; split <;> decide
def grP (p : Pe) : Nt := grOf p.en.ad
open Classical in
noncomputable def gL (l : List Pe) (x : Lit) : Int := ((l.filter fun p => decide (klN (grP p) = x)).length : Nat)
theorem gL_at {l : List Pe} (hl : ∀ p ∈ l, p.fits) {nt : Nt} (h : nt.okC) : gL l (klN nt) = (cwN grP l nt : Nat) := by
  unfold gL cwN
  congr 2
  refine List.filter_congr fun p hp => ?_
  have hf : (grP p).okC := grOf_ok _ (hl p hp).1.1
  exact decide_eq_decide.2 ⟨fun e => klN_inj hf h e, fun e => by rw [e]⟩
theorem gL_snoc (l : List Pe) (p : Pe) (x : Lit) (h : x = klN (grP p)) : gL (l ++ [p]) x = gL l x + 1 := by
  unfold gL
  rw [List.filter_append, List.length_append]
  simp [h]
theorem gL_other (l : List Pe) (p : Pe) (x : Lit) (h : x ≠ klN (grP p)) : gL (l ++ [p]) x = gL l x := by
  unfold gL
  rw [List.filter_append, List.length_append]
  simp [h.symm]
theorem gL_le (l : List Pe) (x : Lit) : 0 ≤ gL l x ∧ gL l x ≤ l.length := by
  unfold gL
  have := List.length_filter_le (fun p => @decide (klN (grP p) = x) (Classical.propDecidable _)) l
  omega
theorem zero_int (W : World) : (zeroValue 3).run Try.prog W = .ok (.int .i64 0) W := by kernel_rfl
/-- what a callee that counts gives -/
def Counts (w : World) (M : Nat) (l : List Pe) : Prop := ∃ es clock n, w.heap[M]? = some (.map es clock) ∧ CM Try.prog 92 3 es clock n (gL l)
theorem Counts.lt {w : World} {M : Nat} {l : List Pe} (h : Counts w M l) : M < w.heap.size := by
  obtain ⟨es, clock, n, hb, _⟩ := h
  exact (Array.getElem?_eq_some_iff.1 hb).1
theorem Counts.below {w w' : World} {M : Nat} {l : List Pe} (h : Counts w M l) (hb : Below w.heap.size w w') : Counts w' M l := by
  have hlt := h.lt
  obtain ⟨es, clock, n, hh, hc⟩ := h
  exact ⟨es, clock, n, (hb.block M hlt).trans hh, hc⟩
theorem Counts.look {w : World} {M : Nat} {l : List Pe} (h : Counts w M l) (hl : ∀ p ∈ l, p.fits) (e : Nt) (he : e.okC) : (Instr.lookup 177 (.map (some M)) (.agg #[.bool e.ad.v6, .int .u64 e.ad.hi, .int .u64 e.ad.lo, .int .i64 e.bits]) false).run Try.prog w = .ok (.int .i64 ((cwN grP l e : Nat) : Int)) w := by
  obtain ⟨es, clock, n, hh, hc⟩ := h
  rw [← gL_at hl he]
  exact cm_look netKeyed Try.underlying177 Try.underlying3 zero_int hc (net_key e he) w hh
theorem run_makeMap_hint (n : Int) (W : World) : (Instr.makeMap 177 (some (.int .i64 n))).run Try.prog W = .ok (.map (some W.heap.size)) (W.alloc (.map #[] 0)) := by
  have ht := run_underlying (P := Try.prog) (w := W) Try.underlying177
  simp [Instr.makeMap, ht, asInt, asIntOf, Result.andThen]
open Go.ChangeMaps (setBlock) in
theorem below_setBlock {B M : Nat} {w W : World} (h : Below B w W) (hM : B ≤ M) (o : Obj) : Below B w (setBlock W M o) := by
  refine ⟨h.1, h.2, h.3, by simp [setBlock]; exact h.4, fun k hk => ?_⟩
  have : (setBlock W M o).heap[k]? = W.heap[k]? := by
    simp only [setBlock, Array.getElem?_setIfInBounds]
    rw [if_neg (by omega)]
  rw [this]; exact h.5 k hk
open Go.ChangeMaps (setBlock) in
theorem heap_setB (W : World) (M : Nat) (o : Obj) (h : M < W.heap.size) : (setBlock W M o).heap[M]? = some o := by
  simp [setBlock, Array.getElem?_setIfInBounds, h]
open Go.ChangeMaps (setBlock) in
theorem cell_setB (W : World) (M B : Nat) (o : Obj) (c : Nat) (h : B ≠ M) : (setBlock W M o).cell? ⟨B, c, none⟩ = W.cell? ⟨B, c, none⟩ :=
  World.cell?_of_block (a := ⟨B, c, none⟩) (by
    show (setBlock W M o).heap[B]? = W.heap[B]?
    simp only [setBlock, Array.getElem?_setIfInBounds]
    rw [if_neg (fun e => h e.symm)])
set_option maxRecDepth 100000 in
set_option maxHeartbeats 8000000 in
theorem count_any (v : Value) (l : List Pe) (hl : ∀ p ∈ l, p.fits) (w : World) (h : ReadsL peV 10 w v l) (hn : l.length ≤ 1000000) :
    Calls Try.prog 176 #[v] w fun e w' => ∃ M, e = .returned (.map (some M)) ∧ Counts w' M l ∧ w.heap.size ≤ M ∧ Below w.heap.size w w' := by
  obtain ⟨hm, p, c, rfl, h3⟩ := pes_open h
  clear h
  have hmk := fun n W => run_makeMap_hint n W
  go_enter Try.func176, Try.ntmps176
  go_upto_region 3 with fail
  clear hmk
  go_name_world W0 hW0
  have hM0 : W0.heap[w.heap.size]? = some (.map #[] 0) := by subst hW0; exact (MapKept.heap_alloc w _).1
  have b0 : Below w.heap.size w W0 := by subst hW0; (repeat (first | with_reducible assumption | with_reducible exact Below.refl _ _ | with_reducible refine Below.setCell ?_ (by first | omega | (simp; done) | (simp; omega)) _ | with_reducible refine Below.alloc ?_ (by first | omega | (simp; done) | (simp; omega)) _ | with_reducible refine Below.drew ?_ | (with_reducible refine Below.trans ?_ (Below.mono (by with_reducible assumption) (by first | omega | (simp; done) | (simp; omega)))) | (refine Below.trans ?_ (Below.mono (by assumption) (by first | omega | (simp; done) | (simp; omega))))))
  obtain ⟨M, hM⟩ : ∃ M, M = w.heap.size := ⟨_, rfl⟩
  rw [← hM] at hM0
  rw [← hM]
  have HM := Lib.hid hM; have HM0 := Lib.hid hM0; have HB0 := Lib.hid b0
  clear hW0 hM hM0 b0
  go_loopw [11] (fun i' wr => ∃ (k : Nat) (es : Array MapEntry) (clock : Nat), k ≤ l.length ∧ i' = .int .i64 k ∧ Hid (wr.heap[M]? = some (.map es clock)) ∧ Hid (CM Try.prog 92 3 es clock k (gL (l.take k))) ∧ Hid (Below w.heap.size w wr)) (fun i' _ => l.length - (intOf i').toNat)
  case atStart => exact ⟨0, #[], 0, by omega, rfl, HM0.out, cm_zero, HB0.out⟩
  case round =>
    obtain ⟨k, es, clock, hk, rfl, HH, HC, HB⟩ := hrel
    by_cases hlt : k < l.length
    · obtain ⟨p, hp⟩ : ∃ p, l[k]? = some p := ⟨_, List.getElem?_eq_getElem hlt⟩
      have fp : p.fits := hl p (List.mem_of_getElem? hp)
      obtain ⟨b, o, rfl, h4, h5, h6⟩ := h3 (by omega)
      have hMr : M < wr.heap.size := (Array.getElem?_eq_some_iff.1 HH.out).1
      have K := (h6 k p hp).below HB.out h5
      have q1 : (0 : Int) ≤ (k : Int) := by omega
      have q2 : (k : Int) < (l.length : Int) := by omega
      have HT : Hid (l.take (k + 1) = l.take k ++ [p]) := by show _ = _; rw [List.take_add_one, hp, Option.toList_some]
      obtain ⟨k0, k1, k2, k3, k4, k5, k6, k7, k8, k9⟩ := K
      clear hp h6
      go_upto_region 5 with (refine list_store_blk rfl 66 _ _ rfl (wr.heap.size) _ _ 66 (BlockIs.newAt' _ _ _ (by simp)) rfl rfl (by kernel_rfl) rfl (by simp [Value.oneCell']) wr.heap.size wr (by (repeat (first | with_reducible assumption | with_reducible exact Below.refl _ _ | with_reducible refine Below.setCell ?_ (by first | omega | (simp; done) | (simp; omega)) _ | with_reducible refine Below.alloc ?_ (by first | omega | (simp; done) | (simp; omega)) _ | with_reducible refine Below.drew ?_ | (with_reducible refine Below.trans ?_ (Below.mono (by with_reducible assumption) (by first | omega | (simp; done) | (simp; omega)))) | (refine Below.trans ?_ (Below.mono (by assumption) (by first | omega | (simp; done) | (simp; omega))))))) (Nat.le_refl _) ?_; intro W5 hP hoth hsz b5; clear hoth hsz)
      clear k0 k1 k2 k3 k4 k5 k6 k7 k8 k9
      have hH5 : W5.heap[M]? = some (.map es clock) := (b5.block M hMr).trans HH.out
      have HB5 := Lib.hid (below2 HB.out b5)
      have x0 := hP.cell (i := 0) rfl; have x1 := hP.cell (i := 1) rfl; have x2 := hP.cell (i := 2) rfl
      have hBl := hP.lt
      obtain ⟨B, hBe⟩ : ∃ B, B = wr.heap.size := ⟨_, rfl⟩
      rw [← hBe] at x0 x1 x2 hBl
      rw [← hBe]
      have hBM : B ≠ M := by omega
      have hM5 : M < W5.heap.size := (Array.getElem?_eq_some_iff.1 hH5).1
      have hG := fun w => grOf_any p.en.ad fp.1.1 w
      have hok := grOf_ok p.en.ad fp.1.1
      obtain ⟨nt, hnt⟩ : ∃ nt, nt = grOf p.en.ad := ⟨_, rfl⟩
      rw [← hnt] at hG hok
      have hwl := gL_le (l.take k) (klN nt)
      have hkl : (l.take k).length ≤ 1000000 := by rw [List.length_take]; omega
      have HL0 := Lib.hid (fun W hb => cm_look (b := M) netKeyed Try.underlying177 Try.underlying3 zero_int HC.out (net_key nt hok) W hb)
      obtain ⟨v0, st, es1, clock1, es2, clock2, E1, E2, E3, E4⟩ := cm_three (b := M) netKeyed Try.underlying177 Try.underlying3 zero_int HC.out (by unfold maxLen; omega) (net_key nt hok) (wf_i64 _ (by omega)) W5 hH5
      have HC4 : Hid (CM Try.prog 92 3 es2 clock2 (k + 1) (gL (l.take (k + 1)))) := E4 _ (by rw [HT.out]; exact gL_snoc _ _ _ (by rw [hnt]; rfl)) (fun x hx => by rw [HT.out]; exact gL_other _ _ _ (fun e => hx (by rw [e, hnt]; rfl)))
      have hl0 := HL0.out
      obtain ⟨cn, hcn⟩ : ∃ cn, gL (l.take k) (klN nt) = cn := ⟨_, rfl⟩
      rw [hcn] at E2 E3 hwl
      simp only [hcn] at hl0
      have hwr : IntKind.i64.wrap (cn + 1) = cn + 1 := IntWalk.i64_in _ (by omega)
      have HG := Lib.hid hG
      have hdr : ∀ W : World, W.drew.heap = W.heap := fun _ => rfl
      have hs1 : ∀ (W : World) (o : Obj), W.heap[M]? = some (.map es clock) → (Go.ChangeMaps.setBlock W M o).heap[M]? = some o := fun W o h => heap_setB W M o (Array.getElem?_eq_some_iff.1 h).1
      have hs2 := fun W o c => cell_setB W M B o c hBM
      clear hnt hG E4 HL0 hcn HC b5 hP hBe hwl
      have HM5 := Lib.hid hM5
      clear hBM hMr hM5
      go_region_held3 (fun w' => w'.cell? ⟨B, 0, none⟩ = some (.bool p.en.ad.v6) ∧ w'.cell? ⟨B, 1, none⟩ = some (.int .u64 p.en.ad.hi) ∧ w'.cell? ⟨B, 2, none⟩ = some (.int .u64 p.en.ad.lo)) (first | go_keep | (simp (disch := omega) [*])) (first | (go_at_call 177; (with_reducible refine (HG.out _).mono ?_); rintro e w6 ⟨rfl, b6⟩; have z6 := b6.size; (try simp at z6); have d6 := fun o => (bcell b6).1 B o (by first | omega | (simp; done) | (simp; omega)); have hH6 : w6.heap[M]? = some (.map es clock) := (b6.block M HM5.out).trans hH5))
      all_goals
        have hle : w.heap.size ≤ M := by have := HM.out; omega
        have hM6 : M < w6.heap.size := by have := HM5.out; omega
        have hB6 : Below w.heap.size w w6 := below2 HB5.out (below2 ((Below.refl _ _).drew) b6)
        go_upto_region 6 with fail
        go_name_world W9 hW9
        have hH9 : W9.heap[M]? = some (.map es2 clock2) := by subst hW9; exact heap_setB _ M _ (by simp [Go.ChangeMaps.setBlock]; exact hM6)
        have hB9 : Below w.heap.size w W9 := by subst hW9; exact below_setBlock (below_setBlock hB6 hle _) hle _
        have HH9 := Lib.hid hH9; have HB9 := Lib.hid hB9
        clear hW9 hH9 hB9 hM6 hB6 E1 E2 E3 hl0 hs1 hs2 hdr hH5 hH6 b6 x0 x1 x2 d6
        go_wp2_with fail
        go_roundw
        case rel => exact ⟨k + 1, es2, clock2, by omega, by go_num, HH9.out, HC4.out, HB9.out⟩
        case measure => simp [intOf]; omega
    · obtain rfl : k = l.length := by omega
      have HF : Hid (Counts wr M l) := ⟨es, clock, _, HH.out, by have := HC.out; rwa [List.take_length] at this⟩
      go_wp2_with fail
      go_ret
      exact ⟨M, rfl, HF.out, by have := HM.out; omega, HB.out⟩
end Go.Proofs.Ytppmjbnhghaffaa
/- The contracts of crowd, and of the document's. Conditions: numbers are 64 bits. -/
namespace Go.Proofs.Ytppmjbnhghaffaa
open Go.RowKit

set_option maxRecDepth 100000 in
set_option maxHeartbeats 8000000 in
theorem youth_any (a b : Pe) (w : World) : Calls Try.prog 178 #[.agg #[.bool a.en.ad.v6, .int .u64 a.en.ad.hi, .int .u64 a.en.ad.lo, .int .i64 a.en.port, .bool a.came, .int .i64 a.since, .int .i64 a.pts, .int .i64 a.at_, .int .i64 a.ping, .int .i64 a.work], .agg #[.bool b.en.ad.v6, .int .u64 b.en.ad.hi, .int .u64 b.en.ad.lo, .int .i64 b.en.port, .bool b.came, .int .i64 b.since, .int .i64 b.pts, .int .i64 b.at_, .int .i64 b.ping, .int .i64 b.work]] w fun e w' => e = .returned (.int .i64 (yoI a b)) ∧ Below w.heap.size w w' := by
  have HC := Lib.hid (fun w => cmpInt_any a.since b.since w)
  unfold yoI
  generalize cmpI a.since b.since = c at *
  have ho := Lib.hid (fun (w : World) => or_any (.slice (some ⟨w.heap.size, 0, none⟩) 2 2) [c, enCmp a.en b.en] (w.alloc (.cells #[.int .i64 c, .int .i64 (enCmp a.en b.en)] 3)) ((BlockIs.new w [.int .i64 c, .int .i64 (enCmp a.en b.en)] 3).reads rfl (by decide)))
  have z0 : w.heap.size < w.heap.size + 1 + 1 := by omega
  go_enter Try.func178, Try.ntmps178
  go_wp2_with fail
  go_region_held3 (fun w' => w'.cell? ⟨w.heap.size, 0, none⟩ = some (.bool a.en.ad.v6) ∧ w'.cell? ⟨w.heap.size, 1, none⟩ = some (.int .u64 a.en.ad.hi) ∧ w'.cell? ⟨w.heap.size, 2, none⟩ = some (.int .u64 a.en.ad.lo) ∧ w'.cell? ⟨w.heap.size, 3, none⟩ = some (.int .i64 a.en.port) ∧ w'.cell? ⟨w.heap.size, 5, none⟩ = some (.int .i64 a.since) ∧ w'.cell? ⟨w.heap.size + 1, 0, none⟩ = some (.bool b.en.ad.v6) ∧ w'.cell? ⟨w.heap.size + 1, 1, none⟩ = some (.int .u64 b.en.ad.hi) ∧ w'.cell? ⟨w.heap.size + 1, 2, none⟩ = some (.int .u64 b.en.ad.lo) ∧ w'.cell? ⟨w.heap.size + 1, 3, none⟩ = some (.int .i64 b.en.port) ∧ w'.cell? ⟨w.heap.size + 1, 5, none⟩ = some (.int .i64 b.since)) (first | go_keep | (simp (disch := omega) [*])) (first | (go_at_call 130; (with_reducible refine (HC.out _).mono ?_); rintro e w2 ⟨rfl, rfl⟩) | (go_at_call 131; refine (enCmp_any a.en b.en _).mono ?_; rintro e w1 ⟨rfl, b1⟩; obtain ⟨c1, f1⟩ := bcell b1; have z1 := b1.size; (try simp at z1)) | (go_at_call 129; refine (ho.out _).mono ?_; rintro e w' ⟨rfl, rfl⟩))
  all_goals
    go_wp2_with fail
    go_ret
    refine ⟨rfl, ?_⟩
    (repeat (first | with_reducible assumption | with_reducible exact Below.refl _ _ | with_reducible refine Below.setCell ?_ (by first | omega | (simp; done) | (simp; omega)) _ | with_reducible refine Below.alloc ?_ (by first | omega | (simp; done) | (simp; omega)) _ | with_reducible refine Below.drew ?_ | (with_reducible refine Below.trans ?_ (Below.mono (by with_reducible assumption) (by first | omega | (simp; done) | (simp; omega)))) | (refine Below.trans ?_ (Below.mono (by assumption) (by first | omega | (simp; done) | (simp; omega))))))
set_option maxRecDepth 100000 in
set_option maxHeartbeats 8000000 in
theorem refYounger_any (a b : Pe) (w : World) : Calls Try.prog 181 #[.agg #[.bool a.en.ad.v6, .int .u64 a.en.ad.hi, .int .u64 a.en.ad.lo, .int .i64 a.en.port, .bool a.came, .int .i64 a.since, .int .i64 a.pts, .int .i64 a.at_, .int .i64 a.ping, .int .i64 a.work], .agg #[.bool b.en.ad.v6, .int .u64 b.en.ad.hi, .int .u64 b.en.ad.lo, .int .i64 b.en.port, .bool b.came, .int .i64 b.since, .int .i64 b.pts, .int .i64 b.at_, .int .i64 b.ping, .int .i64 b.work]] w fun e w' => e = .returned (.bool (decide (0 < yoI a b))) ∧ Below w.heap.size w w' := by
  by_cases h : a.since = b.since
  · have hy : yoI a b = enCmp a.en b.en := by unfold yoI; rw [orI_two, h, cmpI_self, if_pos rfl]
    have HC := Lib.hid (fun w => refEnCmp_any a.en b.en w)
    rw [hy]
    generalize enCmp a.en b.en = y at *
    have hd : decide (a.since = b.since) = true := decide_eq_true h
    have hb : (a.since == b.since) = true := beq_iff_eq.2 h
    go_enter Try.func181, Try.ntmps181
    go_wp2_with (go_at_call 88; (with_reducible refine (HC.out _).mono ?_); rintro e w1 ⟨rfl, b1⟩)
    go_ret
    refine ⟨rfl, ?_⟩
    (repeat (first | with_reducible assumption | with_reducible exact Below.refl _ _ | with_reducible refine Below.setCell ?_ (by first | omega | (simp; done) | (simp; omega)) _ | with_reducible refine Below.alloc ?_ (by first | omega | (simp; done) | (simp; omega)) _ | with_reducible refine Below.drew ?_ | (with_reducible refine Below.trans ?_ (Below.mono (by with_reducible assumption) (by first | omega | (simp; done) | (simp; omega)))) | (refine Below.trans ?_ (Below.mono (by assumption) (by first | omega | (simp; done) | (simp; omega))))))
  · have hy : decide (0 < yoI a b) = decide (b.since < a.since) := by
      refine decide_eq_decide.2 ?_
      unfold yoI
      rw [orI_two, if_neg (fun e => h (cmpI_zero e))]
      exact cmp_gt_iff _ _
    rw [hy]
    have hb : (a.since == b.since) = false := beq_eq_false_iff_ne.2 h
    go_enter Try.func181, Try.ntmps181
    go_wp2_with fail
    go_ret
    refine ⟨rfl, ?_⟩
    (repeat (first | with_reducible assumption | with_reducible exact Below.refl _ _ | with_reducible refine Below.setCell ?_ (by first | omega | (simp; done) | (simp; omega)) _ | with_reducible refine Below.alloc ?_ (by first | omega | (simp; done) | (simp; omega)) _ | with_reducible refine Below.drew ?_ | (with_reducible refine Below.trans ?_ (Below.mono (by with_reducible assumption) (by first | omega | (simp; done) | (simp; omega)))) | (refine Below.trans ?_ (Below.mono (by assumption) (by first | omega | (simp; done) | (simp; omega))))))
def peGet (l : List Pe) (i : Nat) : Pe := l[i]?.getD ⟨⟨⟨false, 0, 0⟩, 0⟩, false, 0, 0, 0, 0, 0⟩
theorem peGet_at {l : List Pe} {i : Nat} {p : Pe} (h : l[i]? = some p) : peGet l i = p := by unfold peGet; rw [h]; rfl
/-- of whose group how many are -/
def cwI (l : List Pe) (i : Int) : Int := if i < 0 ∨ (l.length : Int) ≤ i then 0 else (cwN grP l (grP (peGet l i.toNat)) : Nat)
theorem cwI_at {l : List Pe} {i : Nat} {p : Pe} (h : l[i]? = some p) : cwI l i = (cwN grP l (grP p) : Nat) := by
  have hi := (List.getElem?_eq_some_iff.1 h).1
  unfold cwI
  rw [if_neg (by omega), show ((i : Int)).toNat = i from by omega, peGet_at h]
set_option maxRecDepth 100000 in
set_option maxHeartbeats 8000000 in
theorem refCrowd_any (v : Value) (l : List Pe) (hl : ∀ p ∈ l, p.fits) (i : Int) (w : World) (h : ReadsL peV 10 w v l) (hn : l.length ≤ 1000000) :
    Calls Try.prog 180 #[v, .int .i64 i] w fun e w' => e = .returned (.int .i64 (cwI l i)) ∧ Below w.heap.size w w' := by
  obtain ⟨hm, p, c, rfl, h3⟩ := pes_open h
  clear h
  by_cases h1 : i < 0
  · rw [show cwI l i = 0 from by unfold cwI; rw [if_pos (Or.inl h1)]]
    go_enter Try.func180, Try.ntmps180
    go_wp2_with fail
    go_ret
    exact ⟨rfl, Below.refl _ _⟩
  by_cases h2 : (l.length : Int) ≤ i
  · rw [show cwI l i = 0 from by unfold cwI; rw [if_pos (Or.inr h2)]]
    go_enter Try.func180, Try.ntmps180
    go_wp2_with fail
    go_ret
    exact ⟨rfl, Below.refl _ _⟩
  obtain ⟨j, rfl⟩ : ∃ j : Nat, i = j := ⟨i.toNat, by omega⟩
  have hj : j < l.length := by omega
  obtain ⟨a, hja⟩ : ∃ a, l[j]? = some a := ⟨_, List.getElem?_eq_getElem hj⟩
  have fa : a.fits := hl a (List.mem_of_getElem? hja)
  rw [cwI_at hja]
  obtain ⟨b, o, rfl, h4, h5, h6⟩ := h3 (by omega)
  have HA := h6 j a hja
  have q3 : (0 : Int) ≤ (j : Int) := by omega
  have q4 : (j : Int) < (l.length : Int) := by omega
  have hGa := fun w => refGrOf_any a.en.ad fa.1.1 w
  rw [show grOf a.en.ad = grP a from rfl] at hGa
  obtain ⟨nt, hnt⟩ : ∃ nt, nt = grP a := ⟨_, rfl⟩
  rw [← hnt] at hGa ⊢
  have HGa := Lib.hid hGa
  clear hGa h3 hja h1 h2 hj hnt
  go_enter Try.func180, Try.ntmps180
  go_wp2_with fail
  go_loopw [5, 6] (fun n' k' wr => ∃ k : Nat, k ≤ l.length ∧ k' = .int .i64 k ∧ n' = .int .i64 ((cwN grP (l.take k) nt : Nat) : Int) ∧ Hid (Below w.heap.size w wr)) (fun _ k' _ => l.length - (intOf k').toNat)
  case atStart => exact ⟨0, by omega, rfl, rfl, Below.refl _ _⟩
  case round =>
    obtain ⟨k, hk, rfl, rfl, HB⟩ := hrel
    by_cases hlt : k < l.length
    · obtain ⟨p, hp⟩ : ∃ p, l[k]? = some p := ⟨_, List.getElem?_eq_getElem hlt⟩
      have fp : p.fits := hl p (List.mem_of_getElem? hp)
      have K := ((h6 k p hp).below HB.out h5).ext (Nat.lt_of_lt_of_le h5 HB.out.size)
      have K2 := (HA.below HB.out h5).ext (Nat.lt_of_lt_of_le h5 HB.out.size)
      have x0 := fun y => (K y).1; have x1 := fun y => (K y).2.1; have x2 := fun y => (K y).2.2.1
      have y0 := fun y => (K2 y).1; have y1 := fun y => (K2 y).2.1; have y2 := fun y => (K2 y).2.2.1
      have q1 : (0 : Int) ≤ (k : Int) := by omega
      have q2 : (k : Int) < (l.length : Int) := by omega
      have hGp := fun w => refGrOf_any p.en.ad fp.1.1 w
      rw [show grOf p.en.ad = grP p from rfl] at hGp
      have hcl : cwN grP (l.take (k + 1)) nt = cwN grP (l.take k) nt + (if grP p = nt then 1 else 0) := by
        unfold cwN
        rw [List.take_add_one, hp, Option.toList_some, List.filter_append, List.length_append]
        congr 1
        by_cases e : grP p = nt <;> simp [e]
      have hcb : cwN grP (l.take k) nt ≤ k := by
        unfold cwN
        exact Nat.le_trans (List.length_filter_le _ _) (by rw [List.length_take]; omega)
      have hq := fun W => eqlNt (grP p) nt W
      obtain ⟨np, hnp⟩ : ∃ np, np = grP p := ⟨_, rfl⟩
      rw [← hnp] at hGp hcl hq
      obtain ⟨cn, hcn⟩ : ∃ cn, cn = cwN grP (l.take k) nt := ⟨_, rfl⟩
      rw [← hcn] at hcl hcb
      have HGp := Lib.hid hGp; have HCL := Lib.hid hcl
      rw [← hcn]
      clear hGp K K2 hp hcl hnp hcn
      by_cases he : np = nt
      · rw [decide_eq_true he] at hq
        have HE := Lib.hid he
        clear he
        go_wp2_with fail
        refine wp_region_ext (by kernel_rfl) (by kernel_rfl) ?_
        repeat (go_big_quiet_step ((first | (go_at_call 173; with_reducible exact qe (HGp.out _)) | (go_at_call 173; with_reducible exact qe (HGa.out _)))))
        refine wpQuiet_nil ?_
        intro _ hw'
        obtain ⟨gx, hw3⟩ := hw'
        subst hw3
        clear x0 x1 x2 y0 y1 y2 hq
        go_wp2_with fail
        go_roundw
        case rel => exact ⟨k + 1, by omega, by go_num, by rw [HCL.out, if_pos HE.out]; go_num, below2 HB.out (ext_below wr gx)⟩
        case measure => simp [intOf]; omega
      · rw [decide_eq_false he] at hq
        have HE := Lib.hid he
        clear he
        go_wp2_with fail
        refine wp_region_ext (by kernel_rfl) (by kernel_rfl) ?_
        repeat (go_big_quiet_step ((first | (go_at_call 173; with_reducible exact qe (HGp.out _)) | (go_at_call 173; with_reducible exact qe (HGa.out _)))))
        refine wpQuiet_nil ?_
        intro _ hw'
        obtain ⟨gx, hw3⟩ := hw'
        subst hw3
        clear x0 x1 x2 y0 y1 y2 hq
        go_wp2_with fail
        go_roundw
        case rel => exact ⟨k + 1, by omega, by go_num, by rw [HCL.out, if_neg HE.out]; rfl, below2 HB.out (ext_below wr gx)⟩
        case measure => simp [intOf]; omega
    · obtain rfl : k = l.length := by omega
      have HF : Hid (cwN grP (l.take l.length) nt = cwN grP l nt) := by show _ = _; rw [List.take_length]
      go_wp2_with fail
      go_ret
      exact ⟨by rw [← HF.out]; rfl, HB.out⟩
end Go.Proofs.Ytppmjbnhghaffaa
/- Who goes: the contract of crowd.Pick and of the document's. Conditions: numbers are 64 bits. -/
namespace Go.Proofs.Ytppmjbnhghaffaa
open Go.RowKit
set_option linter.unusedSimpArgs false
set_option linter.unusedVariables false

def pkI : Option Nat → Int
  | none => -1
  | some j => j
def gtL (l : List Pe) (i j : Nat) : Bool := wkGt grP l (peGet l i) (peGet l j)
theorem wo_gtL (l : List Pe) : WO (gtL l) := wo_ofP (cmp_on (cmp_wk grP l) (peGet l))
/-- who goes -/
def pkO (l : List Pe) : Option Nat := pickL (gtL l) (List.range l.length)
theorem pk_succ (l : List Pe) (k : Nat) : pickL (gtL l) (List.range (k + 1)) = pickStep (gtL l) (pickL (gtL l) (List.range k)) k := by rw [List.range_succ, pickL_snoc]
theorem pk_lt {l : List Pe} {k j : Nat} (h : pickL (gtL l) (List.range k) = some j) : j < k := (pick_best (wo_gtL l) h).1
theorem pk_good {l : List Pe} {i : Nat} (hi : i < l.length) (hg : ∀ k, k < l.length → wkGood grP l (peGet l i) (peGet l k) = true) (hb : ∀ x, x < i → ∃ k, k < l.length ∧ wkGood grP l (peGet l x) (peGet l k) = false) : pkO l = some i := by
  cases h : pkO l with
  | none => have := pick_none h; omega
  | some x =>
    obtain ⟨h1, h2, h3⟩ := pick_best (wo_gtL l) h
    rcases Nat.lt_trichotomy i x with c | c | c
    · have q1 := h3 i c
      have q2 := hg x h1
      rw [wkGood_is] at q2
      have q1' : wkGt grP l (peGet l x) (peGet l i) = true := q1
      rw [q1'] at q2; cases q2
    · rw [c]
    · obtain ⟨k, hk, q⟩ := hb x c
      rw [wkGood_is] at q
      have q3 : wkGt grP l (peGet l k) (peGet l x) = false := h2 k hk
      rw [q3] at q; cases q
theorem pk_nobody {l : List Pe} (hb : ∀ x, x < l.length → ∃ k, k < l.length ∧ wkGood grP l (peGet l x) (peGet l k) = false) : pkO l = none := by
  cases h : pkO l with
  | none => rfl
  | some x =>
    obtain ⟨h1, h2, h3⟩ := pick_best (wo_gtL l) h
    obtain ⟨k, hk, q⟩ := hb x h1
    rw [wkGood_is] at q
    have q3 : wkGt grP l (peGet l k) (peGet l x) = false := h2 k hk
    rw [q3] at q; cases q
set_option maxRecDepth 100000 in
set_option maxHeartbeats 16000000 in
theorem pick_any (v : Value) (l : List Pe) (hl : ∀ p ∈ l, p.fits) (w : World) (h : ReadsL peV 10 w v l) (hn : l.length ≤ 1000000) :
    Calls Try.prog 156 #[v] w fun e w' => e = .returned (.int .i64 (pkI (pkO l))) ∧ Below w.heap.size w w' := by
  have HC0 := Lib.hid (fun W (hW : Below w.heap.size w W) => count_any _ l hl W (ReadsL.below h hW) hn)
  obtain ⟨hm, p, c, rfl, h3⟩ := pes_open h
  clear h
  go_enter Try.func156, Try.ntmps156
  go_upto_region 3 with (go_at_call 176; (with_reducible refine (HC0.out _ (by (repeat (first | with_reducible assumption | with_reducible exact Below.refl _ _ | with_reducible refine Below.setCell ?_ (by first | omega | (simp; done) | (simp; omega)) _ | with_reducible refine Below.alloc ?_ (by first | omega | (simp; done) | (simp; omega)) _ | with_reducible refine Below.drew ?_ | (with_reducible refine Below.trans ?_ (Below.mono (by with_reducible assumption) (by first | omega | (simp; done) | (simp; omega)))) | (refine Below.trans ?_ (Below.mono (by assumption) (by first | omega | (simp; done) | (simp; omega)))))))).mono ?_); rintro e w3 ⟨M, rfl, hc3, hM3, b3⟩)
  have b3' : Below w.heap.size w w3 := by (repeat (first | with_reducible assumption | with_reducible exact Below.refl _ _ | with_reducible refine Below.setCell ?_ (by first | omega | (simp; done) | (simp; omega)) _ | with_reducible refine Below.alloc ?_ (by first | omega | (simp; done) | (simp; omega)) _ | with_reducible refine Below.drew ?_ | (with_reducible refine Below.trans ?_ (Below.mono (by with_reducible assumption) (by first | omega | (simp; done) | (simp; omega)))) | (refine Below.trans ?_ (Below.mono (by assumption) (by first | omega | (simp; done) | (simp; omega))))))
  have HB3 := Lib.hid b3'; have HC3 := Lib.hid hc3
  clear b3 b3' hc3 HC0 hM3
  go_loopw [4, 11] (fun a' i' wr => ∃ k : Nat, k ≤ l.length ∧ i' = .int .i64 k ∧ a' = .int .i64 (pkI (pickL (gtL l) (List.range k))) ∧ Hid (Below w3.heap.size w3 wr)) (fun _ i' _ => l.length - (intOf i').toNat)
  case atStart => exact ⟨0, by omega, rfl, rfl, Below.refl _ _⟩
  case round =>
    obtain ⟨k, hk, rfl, rfl, HB⟩ := hrel
    by_cases hlt : k < l.length
    · obtain ⟨p, hp⟩ : ∃ p, l[k]? = some p := ⟨_, List.getElem?_eq_getElem hlt⟩
      have fp : p.fits := hl p (List.mem_of_getElem? hp)
      obtain ⟨b, o, rfl, h4, h5, h6⟩ := h3 (by omega)
      have HBW := Lib.hid (below2 HB3.out HB.out)
      have K := (h6 k p hp).below HBW.out h5
      have q1 : (0 : Int) ≤ (k : Int) := by omega
      have q2 : (k : Int) < (l.length : Int) := by omega
      have hgp := peGet_at hp
      have HS := Lib.hid (pk_succ l k)
      obtain ⟨k0, k1, k2, k3, k4, k5, k6, k7, k8, k9⟩ := K
      go_upto_region 5 with (refine list_store_blk rfl 66 _ _ rfl (wr.heap.size) _ _ 66 (BlockIs.newAt' _ _ _ (by simp)) rfl rfl (by kernel_rfl) rfl (by simp [Value.oneCell']) wr.heap.size wr (by (repeat (first | with_reducible assumption | with_reducible exact Below.refl _ _ | with_reducible refine Below.setCell ?_ (by first | omega | (simp; done) | (simp; omega)) _ | with_reducible refine Below.alloc ?_ (by first | omega | (simp; done) | (simp; omega)) _ | with_reducible refine Below.drew ?_ | (with_reducible refine Below.trans ?_ (Below.mono (by with_reducible assumption) (by first | omega | (simp; done) | (simp; omega)))) | (refine Below.trans ?_ (Below.mono (by assumption) (by first | omega | (simp; done) | (simp; omega))))))) (Nat.le_refl _) ?_; intro W5 hP hoth hsz b5; clear hoth hsz)
      clear k0 k1 k2 k3 k4 k5 k6 k7 k8 k9
      have HB5 := Lib.hid (below2 HB.out b5)
      have HBW5 := Lib.hid (below2 HBW.out b5)
      cases hpk : pickL (gtL l) (List.range k) with
      | none =>
        rw [hpk] at HS
        have hat : pkI none = -1 := rfl
        have x0 := fun y => (hP.below (ext_below W5 y)).cell (i := 0) rfl
        simp only [hat]
        clear hgp hp hat h6 hpk
        refine wp_region_ext (by kernel_rfl) (by kernel_rfl) ?_
        go_simp
        repeat (go_big_quiet_step (fail))
        refine wpQuiet_nil ?_
        first | (intro _ hw'; obtain ⟨gx, hw''⟩ := hw'; subst hw'') | intro gx
        clear x0
        go_wp2_with fail
        go_roundw
        case rel => exact ⟨k + 1, by omega, by go_num, by rw [HS.out]; rfl, below2 HB5.out (ext_below W5 gx)⟩
        case measure => simp [intOf]; omega
      | some j =>
        have hjk := pk_lt hpk
        obtain ⟨q, hqj⟩ : ∃ q, l[j]? = some q := ⟨_, List.getElem?_eq_getElem (show j < l.length by omega)⟩
        have fq : q.fits := hl q (List.mem_of_getElem? hqj)
        rw [hpk] at HS
        have hst : pickStep (gtL l) (some j) k = if 0 < wkI grP l p q then some k else some j := by
          show (if gtL l k j = true then some k else some j) = _
          unfold gtL wkGt
          rw [hgp, peGet_at hqj]
          by_cases e : 0 < wkI grP l p q <;> simp [e]
        rw [hst] at HS
        have hat : pkI (some j) = (j : Int) := rfl
        have hnj : ¬ ((j : Int) < 0) := by omega
        have hnjd : decide ((j : Int) < 0) = false := decide_eq_false hnj
        have q3 : (0 : Int) ≤ (j : Int) := by omega
        have q4 : (j : Int) < (l.length : Int) := by omega
        simp only [hat]
        have KQ := (h6 j q hqj).below HBW5.out h5
        obtain ⟨y0, y1, y2, y3, y4, y5, y6, y7, y8, y9⟩ := KQ
        have x0 := hP.cell (i := 0) rfl; have x1 := hP.cell (i := 1) rfl; have x2 := hP.cell (i := 2) rfl; have x3 := hP.cell (i := 3) rfl; have x4 := hP.cell (i := 4) rfl; have x5 := hP.cell (i := 5) rfl; have x6 := hP.cell (i := 6) rfl; have x7 := hP.cell (i := 7) rfl; have x8 := hP.cell (i := 8) rfl; have x9 := hP.cell (i := 9) rfl
        have hBl := hP.lt
        have hbl5 : b < W5.heap.size := Nat.lt_of_lt_of_le h5 HBW5.out.size
        obtain ⟨B, hBe⟩ : ∃ B, B = wr.heap.size := ⟨_, rfl⟩
        rw [← hBe] at x0 x1 x2 x3 x4 x5 x6 x7 x8 x9 hBl
        rw [← hBe]
        have hGp := fun w => grOf_any p.en.ad fp.1.1 w
        have hGq := fun w => grOf_any q.en.ad fq.1.1 w
        rw [show grOf p.en.ad = grP p from rfl] at hGp
        rw [show grOf q.en.ad = grP q from rfl] at hGq
        have hokp : (grP p).okC := grOf_ok p.en.ad fp.1.1
        have hokq : (grP q).okC := grOf_ok q.en.ad fq.1.1
        have HLp := Lib.hid (fun (W : World) (hW : Below w3.heap.size w3 W) => (HC3.out.below hW).look hl (grP p) hokp)
        have HLq := Lib.hid (fun (W : World) (hW : Below w3.heap.size w3 W) => (HC3.out.below hW).look hl (grP q) hokq)
        have hwk : wkI grP l p q = orI [cmpI (cwN grP l (grP p) : Nat) (cwN grP l (grP q) : Nat), yoI p q] := rfl
        obtain ⟨np, hnp⟩ : ∃ np, np = grP p := ⟨_, rfl⟩
        obtain ⟨nq, hnq⟩ : ∃ nq, nq = grP q := ⟨_, rfl⟩
        rw [← hnp, ← hnq] at hwk
        rw [← hnp] at hGp HLp
        rw [← hnq] at hGq HLq
        obtain ⟨cp, hcp⟩ : ∃ cp : Int, cp = (cwN grP l np : Nat) := ⟨_, rfl⟩
        obtain ⟨cq, hcq⟩ : ∃ cq : Int, cq = (cwN grP l nq : Nat) := ⟨_, rfl⟩
        rw [← hcp, ← hcq] at hwk
        rw [← hcp] at HLp
        rw [← hcq] at HLq
        have HY := Lib.hid (fun w => youth_any p q w)
        have HCm := Lib.hid (fun w => cmpInt_any cp cq w)
        obtain ⟨cc, hcc⟩ : ∃ cc, cc = cmpI cp cq := ⟨_, rfl⟩
        obtain ⟨yy, hyy⟩ : ∃ yy, yy = yoI p q := ⟨_, rfl⟩
        rw [← hcc, ← hyy] at hwk
        rw [← hcc] at HCm
        rw [← hyy] at HY
        have ho := fun (w : World) => or_any (.slice (some ⟨w.heap.size, 0, none⟩) 2 2) [cc, yy] (w.alloc (.cells #[.int .i64 cc, .int .i64 yy] 3)) ((BlockIs.new w [.int .i64 cc, .int .i64 yy] 3).reads rfl (by decide))
        rw [← hwk] at ho
        obtain ⟨rr, hrr⟩ : ∃ rr, rr = wkI grP l p q := ⟨_, rfl⟩
        rw [← hrr] at ho HS
        have HO := Lib.hid ho; have HGp := Lib.hid hGp; have HGq := Lib.hid hGq
        clear hgp hp hqj hat h6 hpk hst hwk hnp hnq hcp hcq hcc hyy hrr ho hGp hGq hP hokp hokq h3 hBe hnj hjk
        go_region_held3 (fun w' => w'.cell? ⟨B, 0, none⟩ = some (.bool p.en.ad.v6) ∧ w'.cell? ⟨B, 1, none⟩ = some (.int .u64 p.en.ad.hi) ∧ w'.cell? ⟨B, 2, none⟩ = some (.int .u64 p.en.ad.lo) ∧ w'.cell? ⟨B, 3, none⟩ = some (.int .i64 p.en.port) ∧ w'.cell? ⟨B, 4, none⟩ = some (.bool p.came) ∧ w'.cell? ⟨B, 5, none⟩ = some (.int .i64 p.since) ∧ w'.cell? ⟨B, 6, none⟩ = some (.int .i64 p.pts) ∧ w'.cell? ⟨B, 7, none⟩ = some (.int .i64 p.at_) ∧ w'.cell? ⟨B, 8, none⟩ = some (.int .i64 p.ping) ∧ w'.cell? ⟨B, 9, none⟩ = some (.int .i64 p.work) ∧ w'.cell? ⟨b, o + j * 10, none⟩ = some (.bool q.en.ad.v6) ∧ w'.cell? ⟨b, o + j * 10 + 1, none⟩ = some (.int .u64 q.en.ad.hi) ∧ w'.cell? ⟨b, o + j * 10 + 2, none⟩ = some (.int .u64 q.en.ad.lo) ∧ w'.cell? ⟨b, o + j * 10 + 3, none⟩ = some (.int .i64 q.en.port) ∧ w'.cell? ⟨b, o + j * 10 + 4, none⟩ = some (.bool q.came) ∧ w'.cell? ⟨b, o + j * 10 + 5, none⟩ = some (.int .i64 q.since) ∧ w'.cell? ⟨b, o + j * 10 + 6, none⟩ = some (.int .i64 q.pts) ∧ w'.cell? ⟨b, o + j * 10 + 7, none⟩ = some (.int .i64 q.at_) ∧ w'.cell? ⟨b, o + j * 10 + 8, none⟩ = some (.int .i64 q.ping) ∧ w'.cell? ⟨b, o + j * 10 + 9, none⟩ = some (.int .i64 q.work)) (first | go_keep | (simp (disch := omega) [*])) (first | (go_at_call 177; (with_reducible refine (HGp.out _).mono ?_); rintro e w6 ⟨rfl, b6⟩; have z6 := b6.size; (try simp at z6); have d6a := fun o => (bcell b6).1 (B) o (by first | omega | (simp; done) | (simp; omega)); have d6b := fun o => (bcell b6).1 (b) o (by first | omega | (simp; done) | (simp; omega)); have l6 := HLp.out w6 (below2 HB5.out (by (repeat (first | with_reducible assumption | with_reducible exact Below.refl _ _ | with_reducible refine Below.setCell ?_ (by first | omega | (simp; done) | (simp; omega)) _ | with_reducible refine Below.alloc ?_ (by first | omega | (simp; done) | (simp; omega)) _ | with_reducible refine Below.drew ?_ | (with_reducible refine Below.trans ?_ (Below.mono (by with_reducible assumption) (by first | omega | (simp; done) | (simp; omega)))) | (refine Below.trans ?_ (Below.mono (by assumption) (by first | omega | (simp; done) | (simp; omega))))))))) | (go_at_call 177; (with_reducible refine (HGq.out _).mono ?_); rintro e w7 ⟨rfl, b7⟩; have z7 := b7.size; (try simp at z7); have d7a := fun o => (bcell b7).1 (B) o (by first | omega | (simp; done) | (simp; omega)); have d7b := fun o => (bcell b7).1 (b) o (by first | omega | (simp; done) | (simp; omega)); have l7 := HLp.out w7 (below2 HB5.out (by (repeat (first | with_reducible assumption | with_reducible exact Below.refl _ _ | with_reducible refine Below.setCell ?_ (by first | omega | (simp; done) | (simp; omega)) _ | with_reducible refine Below.alloc ?_ (by first | omega | (simp; done) | (simp; omega)) _ | with_reducible refine Below.drew ?_ | (with_reducible refine Below.trans ?_ (Below.mono (by with_reducible assumption) (by first | omega | (simp; done) | (simp; omega)))) | (refine Below.trans ?_ (Below.mono (by assumption) (by first | omega | (simp; done) | (simp; omega)))))))); have m7 := HLq.out w7 (below2 HB5.out (by (repeat (first | with_reducible assumption | with_reducible exact Below.refl _ _ | with_reducible refine Below.setCell ?_ (by first | omega | (simp; done) | (simp; omega)) _ | with_reducible refine Below.alloc ?_ (by first | omega | (simp; done) | (simp; omega)) _ | with_reducible refine Below.drew ?_ | (with_reducible refine Below.trans ?_ (Below.mono (by with_reducible assumption) (by first | omega | (simp; done) | (simp; omega)))) | (refine Below.trans ?_ (Below.mono (by assumption) (by first | omega | (simp; done) | (simp; omega))))))))) | (go_at_call 130; (with_reducible refine (HCm.out _).mono ?_); rintro e w' ⟨rfl, rfl⟩) | (go_at_call 178; (with_reducible refine (HY.out _).mono ?_); rintro e w8 ⟨rfl, b8⟩; have z8 := b8.size; (try simp at z8); have d8a := fun o => (bcell b8).1 (B) o (by first | omega | (simp; done) | (simp; omega)); have d8b := fun o => (bcell b8).1 (b) o (by first | omega | (simp; done) | (simp; omega))) | (go_at_call 129; (with_reducible refine (HO.out _).mono ?_); rintro e w' ⟨rfl, rfl⟩))
        all_goals
          by_cases hg : 0 < rr
          · have HS2 : Hid (pickL (gtL l) (List.range (k + 1)) = some k) := by show _ = _; rw [HS.out, if_pos hg]
            go_wp2_with fail
            go_roundw
            case rel => exact ⟨k + 1, by omega, by go_num, by rw [HS2.out]; rfl, below2 HB5.out (by (repeat (first | with_reducible assumption | with_reducible exact Below.refl _ _ | with_reducible refine Below.setCell ?_ (by first | omega | (simp; done) | (simp; omega)) _ | with_reducible refine Below.alloc ?_ (by first | omega | (simp; done) | (simp; omega)) _ | with_reducible refine Below.drew ?_ | (with_reducible refine Below.trans ?_ (Below.mono (by with_reducible assumption) (by first | omega | (simp; done) | (simp; omega)))) | (refine Below.trans ?_ (Below.mono (by assumption) (by first | omega | (simp; done) | (simp; omega)))))))⟩
            case measure => simp [intOf]; omega
          · have HS2 : Hid (pickL (gtL l) (List.range (k + 1)) = some j) := by show _ = _; rw [HS.out, if_neg hg]
            go_wp2_with fail
            go_roundw
            case rel => exact ⟨k + 1, by omega, by go_num, by rw [HS2.out]; rfl, below2 HB5.out (by (repeat (first | with_reducible assumption | with_reducible exact Below.refl _ _ | with_reducible refine Below.setCell ?_ (by first | omega | (simp; done) | (simp; omega)) _ | with_reducible refine Below.alloc ?_ (by first | omega | (simp; done) | (simp; omega)) _ | with_reducible refine Below.drew ?_ | (with_reducible refine Below.trans ?_ (Below.mono (by with_reducible assumption) (by first | omega | (simp; done) | (simp; omega)))) | (refine Below.trans ?_ (Below.mono (by assumption) (by first | omega | (simp; done) | (simp; omega)))))))⟩
            case measure => simp [intOf]; omega
    · obtain rfl : k = l.length := by omega
      go_wp2_with fail
      go_ret
      exact ⟨rfl, below2 HB3.out HB.out⟩
set_option maxRecDepth 100000 in
set_option maxHeartbeats 16000000 in
theorem refPick_any (v : Value) (l : List Pe) (hl : ∀ p ∈ l, p.fits) (w : World) (h : ReadsL peV 10 w v l) (hn : l.length ≤ 1000000) :
    Calls Try.prog 158 #[v] w fun e w' => e = .returned (.int .i64 (pkI (pkO l))) ∧ Below w.heap.size w w' := by
  have HC0 := Lib.hid (fun (i : Int) W (hW : Below w.heap.size w W) => refCrowd_any _ l hl i W (ReadsL.below h hW) hn)
  obtain ⟨hm, p, c, rfl, h3⟩ := pes_open h
  clear h
  go_enter Try.func158, Try.ntmps158
  go_wp2_with fail
  go_loopw [3] (fun i' wr => ∃ i : Nat, i ≤ l.length ∧ i' = .int .i64 i ∧ Hid (∀ x, x < i → ∃ k, k < l.length ∧ wkGood grP l (peGet l x) (peGet l k) = false) ∧ Hid (Below w.heap.size w wr)) (fun i' _ => l.length - (intOf i').toNat)
  case atStart => exact ⟨0, by omega, rfl, fun x hx => by omega, Below.refl _ _⟩
  case round =>
    obtain ⟨i, hi, rfl, HX, HB⟩ := hrel
    obtain ⟨wo, rfl⟩ : ∃ wo : World, wo = wr := ⟨_, rfl⟩
    by_cases hlt : i < l.length
    · obtain ⟨p, hp⟩ : ∃ p, l[i]? = some p := ⟨_, List.getElem?_eq_getElem hlt⟩
      obtain ⟨b, o, rfl, h4, h5, h6⟩ := h3 (by omega)
      have hgp := peGet_at hp
      have q3 : (0 : Int) ≤ (i : Int) := by omega
      have q4 : (i : Int) < (l.length : Int) := by omega
      have HHp := Lib.hid (h6 i p hp)
      have HCi := Lib.hid (fun W (hW : Below w.heap.size w W) => cwI_at hp ▸ HC0.out i W hW)
      have HGP := Lib.hid hgp
      have HLT := Lib.hid hlt
      clear hp hgp
      go_wp2_with fail
      go_loopw [4, 5] (fun a' k' wr => ∃ (k : Nat) (bb : Bool), k ≤ l.length ∧ k' = .int .i64 k ∧ a' = .bool bb ∧ Hid (bb = true → ∀ x, x < k → wkGood grP l p (peGet l x) = true) ∧ Hid (bb = false → ∃ x, x < l.length ∧ wkGood grP l p (peGet l x) = false) ∧ Hid (Below w.heap.size w wr)) (fun _ k' _ => l.length - (intOf k').toNat)
      case atStart => exact ⟨0, true, by omega, rfl, rfl, fun _ x hx => by omega, (fun e => nomatch e), HB.out⟩
      case round =>
        obtain ⟨k, bb, hk, rfl, rfl, HT, HF, HBk⟩ := hrel
        by_cases hlk : k < l.length
        · obtain ⟨q, hq⟩ : ∃ q, l[k]? = some q := ⟨_, List.getElem?_eq_getElem hlk⟩
          have hgq := peGet_at hq
          have q1 : (0 : Int) ≤ (k : Int) := by omega
          have q2 : (k : Int) < (l.length : Int) := by omega
          have HCk := Lib.hid (fun W (hW : Below w.heap.size w W) => cwI_at hq ▸ HC0.out k W hW)
          have hgd : wkGood grP l p q = (decide (cwN grP l (grP q) ≤ cwN grP l (grP p)) && (decide (cwN grP l (grP q) < cwN grP l (grP p)) || !decide (0 < yoI q p))) := rfl
          have HNT : Hid (wkGood grP l p q = true → bb = true → ∀ x, x < k + 1 → wkGood grP l p (peGet l x) = true) := fun hg hb x hx => by
            rcases Nat.lt_or_ge x k with c1 | c1
            · exact HT.out hb x c1
            · obtain rfl : x = k := by omega
              rw [hgq]; exact hg
          have HNF : Hid (wkGood grP l p q = false → ∃ x, x < l.length ∧ wkGood grP l p (peGet l x) = false) := fun hg => ⟨k, hlk, by rw [hgq]; exact hg⟩
          have HHq := Lib.hid (h6 k q hq)
          have HY := Lib.hid (fun w => refYounger_any q p w)
          clear hq hgq
          obtain ⟨x, hx⟩ : ∃ x, x = cwN grP l (grP q) := ⟨_, rfl⟩
          obtain ⟨y, hy⟩ : ∃ y, y = cwN grP l (grP p) := ⟨_, rfl⟩
          rw [← hx, ← hy] at hgd
          rw [← hx] at HCk
          rw [← hy] at HCi
          obtain ⟨yb, hyb⟩ : ∃ yb, yb = decide (0 < yoI q p) := ⟨_, rfl⟩
          rw [← hyb] at hgd HY
          have HGD := Lib.hid hgd
          clear hgd hx hy hyb
          go_upto_region 9 with (first | (go_at_call 180; (with_reducible refine (HCk.out _ HBk.out).mono ?_); rintro e w6 ⟨rfl, b6⟩) | (go_at_call 180; (with_reducible refine (HCi.out _ (by have := below2 HBk.out b6; exact this)).mono ?_); rintro e w7 ⟨rfl, b7⟩))
          have HB7 := Lib.hid (below2 (below2 HBk.out b6) b7)
          have KP := (HHp.out.below HB7.out h5).ext (Nat.lt_of_lt_of_le h5 HB7.out.size)
          have KQ := (HHq.out.below HB7.out h5).ext (Nat.lt_of_lt_of_le h5 HB7.out.size)
          have x0 := fun y => (KQ y).1; have x1 := fun y => (KQ y).2.1; have x2 := fun y => (KQ y).2.2.1; have x3 := fun y => (KQ y).2.2.2.1; have x4 := fun y => (KQ y).2.2.2.2.1; have x5 := fun y => (KQ y).2.2.2.2.2.1; have x6 := fun y => (KQ y).2.2.2.2.2.2.1; have x7 := fun y => (KQ y).2.2.2.2.2.2.2.1; have x8 := fun y => (KQ y).2.2.2.2.2.2.2.2.1; have x9 := fun y => (KQ y).2.2.2.2.2.2.2.2.2
          have y0 := fun y => (KP y).1; have y1 := fun y => (KP y).2.1; have y2 := fun y => (KP y).2.2.1; have y3 := fun y => (KP y).2.2.2.1; have y4 := fun y => (KP y).2.2.2.2.1; have y5 := fun y => (KP y).2.2.2.2.2.1; have y6 := fun y => (KP y).2.2.2.2.2.2.1; have y7 := fun y => (KP y).2.2.2.2.2.2.2.1; have y8 := fun y => (KP y).2.2.2.2.2.2.2.2.1; have y9 := fun y => (KP y).2.2.2.2.2.2.2.2.2
          clear KP KQ b6 b7
          cases bb with
          | false =>
            refine wp_region_ext (by kernel_rfl) (by kernel_rfl) ?_
            repeat (go_big_quiet_step ((first | (go_at_call 181; with_reducible exact qe (HY.out _)))))
            refine wpQuiet_nil ?_
            first | (intro _ hw'; obtain ⟨gx, hw''⟩ := hw'; subst hw'') | intro gx
            clear x0 x1 x2 x3 x4 x5 x6 x7 x8 x9 y0 y1 y2 y3 y4 y5 y6 y7 y8 y9
            go_wp2_with fail
            go_roundw
            case rel => exact ⟨k + 1, false, by omega, by go_num, rfl, (fun e => nomatch e), fun _ => HF.out rfl, below2 HB7.out (ext_below _ gx)⟩
            case measure => simp [intOf]; omega
          | true =>
            rcases Nat.lt_trichotomy x y with hxy | hxy | hxy
            · have HG : Hid (wkGood grP l p q = true) := by show _ = _; rw [HGD.out, decide_eq_true (Nat.le_of_lt hxy), decide_eq_true hxy]; rfl
              have z1 : (x : Int) < (y : Int) := by omega
              have z2 : (x : Int) ≤ (y : Int) := by omega
              refine wp_region_ext (by kernel_rfl) (by kernel_rfl) ?_
              repeat (go_big_quiet_step ((first | (go_at_call 181; with_reducible exact qe (HY.out _)))))
              refine wpQuiet_nil ?_
              first | (intro _ hw'; obtain ⟨gx, hw''⟩ := hw'; subst hw'') | intro gx
              clear x0 x1 x2 x3 x4 x5 x6 x7 x8 x9 y0 y1 y2 y3 y4 y5 y6 y7 y8 y9
              go_wp2_with fail
              go_roundw
              case rel => exact ⟨k + 1, true, by omega, by go_num, rfl, fun _ => HNT.out HG.out rfl, (fun e => nomatch e), below2 HB7.out (ext_below _ gx)⟩
              case measure => simp [intOf]; omega
            · subst hxy
              cases yb with
              | true =>
                have HG : Hid (wkGood grP l p q = false) := by show _ = _; rw [HGD.out, decide_eq_true (Nat.le_refl _), decide_eq_false (Nat.lt_irrefl _)]; rfl
                refine wp_region_ext (by kernel_rfl) (by kernel_rfl) ?_
                repeat (go_big_quiet_step ((first | (go_at_call 181; with_reducible exact qe (HY.out _)))))
                refine wpQuiet_nil ?_
                first | (intro _ hw'; obtain ⟨gx, hw''⟩ := hw'; subst hw'') | intro gx
                clear x0 x1 x2 x3 x4 x5 x6 x7 x8 x9 y0 y1 y2 y3 y4 y5 y6 y7 y8 y9
                go_wp2_with fail
                go_roundw
                case rel => exact ⟨k + 1, false, by omega, by go_num, rfl, (fun e => nomatch e), fun _ => HNF.out HG.out, below2 HB7.out (ext_below _ gx)⟩
                case measure => simp [intOf]; omega
              | false =>
                have HG : Hid (wkGood grP l p q = true) := by show _ = _; rw [HGD.out, decide_eq_true (Nat.le_refl _), decide_eq_false (Nat.lt_irrefl _)]; rfl
                refine wp_region_ext (by kernel_rfl) (by kernel_rfl) ?_
                repeat (go_big_quiet_step ((first | (go_at_call 181; with_reducible exact qe (HY.out _)))))
                refine wpQuiet_nil ?_
                first | (intro _ hw'; obtain ⟨gx, hw''⟩ := hw'; subst hw'') | intro gx
                clear x0 x1 x2 x3 x4 x5 x6 x7 x8 x9 y0 y1 y2 y3 y4 y5 y6 y7 y8 y9
                go_wp2_with fail
                go_roundw
                case rel => exact ⟨k + 1, true, by omega, by go_num, rfl, fun _ => HNT.out HG.out rfl, (fun e => nomatch e), below2 HB7.out (ext_below _ gx)⟩
                case measure => simp [intOf]; omega
            · have HG : Hid (wkGood grP l p q = false) := by show _ = _; rw [HGD.out, decide_eq_false (show ¬ x ≤ y by omega)]; rfl
              have z1 : ¬ ((x : Int) ≤ (y : Int)) := by omega
              have z2 : decide ((x : Int) ≤ (y : Int)) = false := decide_eq_false z1
              refine wp_region_ext (by kernel_rfl) (by kernel_rfl) ?_
              repeat (go_big_quiet_step ((first | (go_at_call 181; with_reducible exact qe (HY.out _)))))
              refine wpQuiet_nil ?_
              first | (intro _ hw'; obtain ⟨gx, hw''⟩ := hw'; subst hw'') | intro gx
              clear x0 x1 x2 x3 x4 x5 x6 x7 x8 x9 y0 y1 y2 y3 y4 y5 y6 y7 y8 y9
              go_wp2_with fail
              go_roundw
              case rel => exact ⟨k + 1, false, by omega, by go_num, rfl, (fun e => nomatch e), fun _ => HNF.out HG.out, below2 HB7.out (ext_below _ gx)⟩
              case measure => simp [intOf]; omega
        · obtain rfl : k = l.length := by omega
          cases bb with
          | true =>
            have HE : Hid (pkO l = some i) := pk_good HLT.out (fun k hk => by rw [HGP.out]; exact HT.out rfl k hk) HX.out
            go_wp2_with fail
            go_ret
            exact ⟨by rw [HE.out]; rfl, HBk.out⟩
          | false =>
            have HX2 : Hid (∀ x, x < i + 1 → ∃ k, k < l.length ∧ wkGood grP l (peGet l x) (peGet l k) = false) := fun x hx => by
              rcases Nat.lt_or_ge x i with c1 | c1
              · exact HX.out x c1
              · obtain rfl : x = i := by omega
                obtain ⟨k, hk, hg⟩ := HF.out rfl
                exact ⟨k, hk, by rw [HGP.out]; exact hg⟩
            go_wp2_with fail
            go_roundw
            case rel => exact ⟨i + 1, by have := HLT.out; omega, by go_num, HX2.out, HBk.out⟩
            case measure => simp [intOf]; have := HLT.out; omega
    · obtain rfl : i = l.length := by omega
      have HE : Hid (pkO l = none) := pk_nobody HX.out
      go_wp2_with fail
      go_ret
      exact ⟨by rw [HE.out]; rfl, HB.out⟩
end Go.Proofs.Ytppmjbnhghaffaa
/- The laws of crowds. No condition. -/
namespace Go.Proofs.Ytppmjbnhghaffaa
open Go.RowKit
set_option linter.unusedSimpArgs false
set_option linter.unusedVariables false

theorem eqlPe_one (a : Pe) (W : World) : (binOp .eql 66 (.agg #[.bool a.en.ad.v6, .int .u64 a.en.ad.hi, .int .u64 a.en.ad.lo, .int .i64 a.en.port, .bool a.came, .int .i64 a.since, .int .i64 a.pts, .int .i64 a.at_, .int .i64 a.ping, .int .i64 a.work]) (.agg #[.bool a.en.ad.v6, .int .u64 a.en.ad.hi, .int .u64 a.en.ad.lo, .int .i64 a.en.port, .bool a.came, .int .i64 a.since, .int .i64 a.pts, .int .i64 a.at_, .int .i64 a.ping, .int .i64 a.work])).run Try.prog W = .ok (.bool true) W := by
  go_simp
theorem reads_blkC {α : Type} {f : α → List Value} {n : Nat} {w : World} {B : Nat} {T : TypeId} {l : List α} (hB : BlockIs w B (l.flatMap f) T) (hl : 0 < l.length) (hm : l.length ≤ 9223372036854775807) (hn : (l.flatMap f).length = l.length * n) : ReadsL f n w (.slice (some ⟨B, 0, none⟩) l.length l.length) l :=
  ⟨hn, hm, Or.inr ⟨hl, B, 0, l.length, rfl, Nat.le_refl _, hB.lt, fun j x hj => by rw [Nat.zero_add]; exact hB.cell hj⟩⟩
def UnlikeC (l : List Pe) : Prop := l.Pairwise fun a b => a.en ≠ b.en
def a20 : List Pe := [⟨⟨⟨false, 0, 167837697⟩, 1005⟩, true, 5, 0, 0, 0, 0⟩, ⟨⟨⟨false, 0, 167903233⟩, 1020⟩, true, 20, 0, 0, 0, 0⟩, ⟨⟨⟨false, 0, 167837697⟩, 1009⟩, true, 9, 0, 0, 0, 0⟩]
theorem a20_fits : ∀ x ∈ a20, x.fits := by
  intro x hx
  unfold a20 at hx
  simp only [List.mem_cons, List.not_mem_nil, or_false] at hx
  rcases hx with rfl | rfl | rfl <;> (unfold Pe.fits Ad.fits; decide)
theorem a20_pick : pkI (pkO a20) = 2 := by decide +kernel
theorem a20_none : pkI (pkO []) = -1 := by decide +kernel
theorem a20_cw : cwI a20 0 = 2 := by decide +kernel
theorem a20_yo : decide (0 < yoI ⟨⟨⟨false, 0, 167903233⟩, 1020⟩, true, 20, 0, 0, 0, 0⟩ ⟨⟨⟨false, 0, 167837697⟩, 1005⟩, true, 5, 0, 0, 0, 0⟩) = true := by decide +kernel
/-- nobody has a greater crowd than who goes, and of its own group nobody is younger -/
theorem pk_greatest {l : List Pe} {x i : Nat} {p q : Pe} (h : pkO l = some x) (hp : l[i]? = some p) (hq : l[x]? = some q) : cwN grP l (grP p) ≤ cwN grP l (grP q) ∧ (grP p = grP q → ¬ 0 < yoI p q) := by
  obtain ⟨_, h2, _⟩ := pick_best (wo_gtL l) h
  have h3 := h2 i (List.getElem?_eq_some_iff.1 hp).1
  unfold gtL wkGt at h3
  rw [peGet_at hp, peGet_at hq] at h3
  have h4 := of_decide_eq_false h3
  unfold wkI at h4
  rw [orI_two] at h4
  constructor
  · rcases Nat.lt_or_ge (cwN grP l (grP q)) (cwN grP l (grP p)) with c | c
    · have : 0 < cmpI (cwN grP l (grP p) : Nat) (cwN grP l (grP q) : Nat) := (cmp_gt_iff _ _).2 (by omega)
      rw [if_neg (by omega)] at h4; omega
    · exact c
  · intro e
    rw [e, cmpI_self, if_pos rfl] at h4; exact h4
theorem pk_someone {l : List Pe} (h : 0 < l.length) : ∃ x q, pkO l = some x ∧ l[x]? = some q := by
  cases e : pkO l with
  | none => have := pick_none e; omega
  | some x =>
    have := (pick_best (wo_gtL l) e).1
    exact ⟨x, _, rfl, List.getElem?_eq_getElem this⟩
/-- turned: one and the same -/
theorem pk_turned {l m : List Pe} (hu : UnlikeC l) (hp : l.Perm m) {x y : Nat} {q r : Pe} (hx : pkO l = some x) (hq : l[x]? = some q) (hy : pkO m = some y) (hr : m[y]? = some r) : q = r := by
  have b1 : ∀ z ∈ l, wkGt grP l z q = false := fun z hz => by
    obtain ⟨i, hi, rfl⟩ := List.getElem_of_mem hz
    have := (pick_best (wo_gtL l) hx).2.1 i hi
    unfold gtL at this
    rwa [peGet_at (List.getElem?_eq_getElem hi), peGet_at hq] at this
  have b2 : ∀ z ∈ l, wkGt grP l z r = false := fun z hz => by
    obtain ⟨i, hi, rfl⟩ := List.getElem_of_mem (hp.mem_iff.1 hz)
    have := (pick_best (wo_gtL m) hy).2.1 i hi
    unfold gtL at this
    rw [peGet_at (List.getElem?_eq_getElem hi), peGet_at hr] at this
    unfold wkGt at this ⊢
    rwa [wkI_perm grP hp]
  exact best_one grP hu (List.mem_of_getElem? hq) (hp.mem_iff.2 (List.mem_of_getElem? hr)) b1 b2
end Go.Proofs.Ytppmjbnhghaffaa
