/- The contracts of replies. -/
import Derived.Test.YtnohkfbapibmdaaCode
import Derived.Test.YtnohkfbapibmdaaEnd
import Derived.Test.YtnohkfbapibmdaaQd4d2a4zlguzl
import Derived.Test.YtnohkfbapibmdaaAppend
import Derived.Test.YtnohkfbapibmdaaRpV
namespace Go.Proofs.Ytnohkfbapibmdaa
open Go.RowKit
set_option linter.unusedSimpArgs false
set_option linter.unusedVariables false

theorem named_len (name : List UInt8) (n : Int) (hn : name.length ≤ 10) (h : i64 n) : ∀ x ∈ namedL name n, x.length ≤ 40 := by
  intro x hx; unfold namedL at hx; split at hx
  · cases hx
  · have := decText_len n h.1 h.2
    rw [List.mem_singleton] at hx; subst hx; unfold eqL; simp; omega
/-- a block that a call has laid is a row of its own -/
theorem owns_block {w : World} {base g : Nat} {arr : List Value} {T : TypeId} (h : BlockIs w g arr T) (hb : base ≤ g) (hn : arr.length ≤ 1000) : w.ownsRow base T 1 (.slice (some ⟨g, 0, none⟩) arr.length arr.length) arr.length arr :=
  ⟨by omega, Or.inr ⟨g, arr.length, arr.toArray, rfl, hb, h, Nat.le_refl _, by unfold maxLen; omega, by simp, by simp⟩⟩
theorem owns_one {w : World} {base g : Nat} {x : List UInt8} {T : TypeId} (h : BlockIs w g [.string (bs x)] T) (hb : base ≤ g) : w.ownsRow base T 1 (.slice (some ⟨g, 0, none⟩) 1 1) 1 ([x].map sv) := owns_block (arr := [.string (bs x)]) h hb (by simp)
set_option maxRecDepth 100000 in
set_option maxHeartbeats 4000000 in
theorem named_any (name : List UInt8) (n : Int) (hn : name.length ≤ 10) (h : i64 n) (w : World) : Calls Try.prog 73 #[.string (bs name), .int .i64 n] w (GivesStrs w (namedL name n)) := by
  unfold GivesStrs
  by_cases h0 : n = 0
  · have hz : namedL name n = [] := if_pos h0
    rw [hz]
    go_enter Try.func73, Try.ntmps73
    go_wp2_with fail
    go_ret
    exact ⟨_, rfl, World.ownsRow_nil _ _ _ _, Below.refl _ _⟩
  · have hz : namedL name n = [eqL name (decText n)] := if_neg h0
    rw [hz]
    have hl := decText_len n h.1 h.2
    have HT := Lib.hid (fun w => decText_any n h.1 h.2 w)
    generalize decText n = t at *
    have hres : bs name ++ bs [61] ++ bs t = bs (eqL name t) := by unfold eqL; simp only [bs_append]
    have s1 : ¬ 9223372036854775807 < (bs name).size + 1 := by rw [bs_size]; omega
    have s2 : ¬ 9223372036854775807 < (bs name).size + 1 + (bs t).size := by rw [bs_size, bs_size]; omega
    have HRES := Lib.hid hres
    clear hres hz hl
    go_enter Try.func73, Try.ntmps73
    go_wp2_with (go_at_call 87; (with_reducible refine (HT.out _).mono ?_); rintro e w1 ⟨rfl, b1⟩; obtain ⟨c1, f1⟩ := bcell b1; have z1 := b1.size; (try simp at z1); clear c1 f1)
    go_ret
    have hB := BlockIs.new w1 [.string (bs name ++ bs [61] ++ bs t)] 9
    rw [HRES.out] at hB
    exact ⟨_, rfl, owns_one hB (by omega), b1.alloc (by omega) _⟩
theorem row_of {v : Value} {n : Nat} {xs : List Value} {l : List (List UInt8)} {W : World} (h : Reads W v n 1 xs) (hn : n = l.length) (hx : xs = l.map sv) (hN : l.length ≤ 140737488355328) (hl : (joinL 32 l).length ≤ 140737488355328) :
    Calls Try.prog 74 #[v] W fun e w' => e = .returned (.string (bs (joinL 32 l))) ∧ Below W.heap.size W w' := by subst hn; subst hx; exact row_any v l W hN h hl
def rpArg (code : Int) (e : En) (n till : Int) (v : Value) : Value := .agg #[.int .i64 code, .bool e.ad.v6, .int .u64 e.ad.hi, .int .u64 e.ad.lo, .int .i64 e.port, .int .i64 n, .int .i64 till, v]
set_option maxRecDepth 100000 in
set_option maxHeartbeats 8000000 in
theorem rpText_any (code : Int) (e : En) (n till : Int) (a : Option Addr) (k c : Nat) (hf : e.ad.fits) (hn : i64 n) (ht : i64 till) (hk : k ≤ 9223372036854775807) (w : World) :
    Calls Try.prog 15 #[.agg #[.int .i64 code, .bool e.ad.v6, .int .u64 e.ad.hi, .int .u64 e.ad.lo, .int .i64 e.port, .int .i64 n, .int .i64 till, .slice a k c]] w fun r w' => r = .returned (.string (bs (rpText code e n till k))) ∧ Below w.heap.size w w' := by
  have hk2 : i64 (k : Int) := ⟨by omega, by omega⟩
  have hlen := rpText_len code e n till k hf hn ht hk2
  have hC := fun w => codeErr_any code w
  have hE := fun w => enText_any e hf w
  have hN1 : ∀ w, Calls Try.prog 73 #[.string ⟨#[110]⟩, .int .i64 n] w (GivesStrs w (namedL nW n)) := fun w => named_any nW n (by decide) hn w
  have hN2 : ∀ w, Calls Try.prog 73 #[.string ⟨#[117, 110, 116, 105, 108]⟩, .int .i64 till] w (GivesStrs w (namedL untilW till)) := fun w => named_any untilW till (by decide) ht w
  have hN3 : ∀ w, Calls Try.prog 73 #[.string ⟨#[112, 101, 101, 114, 115]⟩, .int .i64 k] w (GivesStrs w (namedL peersW k)) := fun w => named_any peersW k (by decide) hk2 w
  have m1 := namedL_len nW n; have m2 := namedL_len untilW till; have m3 := namedL_len peersW k
  have hq := fun W => neqEn e zeroEn W
  have hel := tail_end_len e hf
  unfold rpText rpParts at hlen ⊢
  have hh : headL code = if nameAt errN code = [] then [45] else nameAt errN code := rfl
  generalize headL code = hd at *
  have HL := Lib.hid hlen
  generalize namedL nW n = L1 at *
  generalize namedL untilW till = L2 at *
  generalize namedL peersW k = L3 at *
  have HROW := Lib.hid (fun v n xs W => @row_of v n xs ([hd] ++ endL e ++ L1 ++ L2 ++ L3) W)
  have HN1 := Lib.hid hN1; have HN2 := Lib.hid hN2; have HN3 := Lib.hid hN3; have HE := Lib.hid hE
  clear hN1 hN2 hN3 hE hlen
  generalize nameAt errN code = nm at *
  have HC := Lib.hid hC; clear hC
  by_cases hz : e = zeroEn
  · have he : endL e = [] := if_pos hz
    rw [he] at HROW HL ⊢
    rw [decide_eq_true hz] at hq
    unfold zeroEn at hq
    simp only [show ((0 : Nat) : Int) = 0 from rfl] at hq
    clear hz he hel HE
    by_cases h0 : nm = []
    · rw [if_pos h0] at hh
      subst h0; subst hh
      have q0 : ((bs []).toList == []) = true := by rw [bs_toL]; rfl
      go_enter Try.func15, Try.ntmps15
      go_upto_region 4 with (go_at_call 71; (with_reducible refine (HC.out _).mono ?_); rintro e w1 ⟨rfl, b1⟩; obtain ⟨c1, f1⟩ := bcell b1; have z1 := b1.size; (try simp at z1); have l1a : w.heap.size < w1.heap.size := (by omega); have n1a := Nat.ne_of_lt l1a; have d1a := fun o => c1 (w.heap.size) o (by first | omega | (simp; done) | (simp; omega)); clear c1 f1)
      go_name_world WWx hWWx
      have hB : BlockIs WWx w1.heap.size [.string (bs [45])] 9 := by subst hWWx; exact BlockIs.new w1 [.string (bs [45])] 9
      have x0 : WWx.cell? ⟨w.heap.size, 0, none⟩ = some (.int .i64 code) := by subst hWWx; (first | (simp [go_sem, *]; done) | (simp (disch := first | omega | (simp; omega) | (simp [go_sem, *]; done)) [go_sem, World.cell?_setCell_far, World.cell?_alloc_past, World.frozen?_alloc_past, *]; done))
      have x1 : WWx.cell? ⟨w.heap.size, 1, none⟩ = some (.bool e.ad.v6) := by subst hWWx; (first | (simp [go_sem, *]; done) | (simp (disch := first | omega | (simp; omega) | (simp [go_sem, *]; done)) [go_sem, World.cell?_setCell_far, World.cell?_alloc_past, World.frozen?_alloc_past, *]; done))
      have x2 : WWx.cell? ⟨w.heap.size, 2, none⟩ = some (.int .u64 e.ad.hi) := by subst hWWx; (first | (simp [go_sem, *]; done) | (simp (disch := first | omega | (simp; omega) | (simp [go_sem, *]; done)) [go_sem, World.cell?_setCell_far, World.cell?_alloc_past, World.frozen?_alloc_past, *]; done))
      have x3 : WWx.cell? ⟨w.heap.size, 3, none⟩ = some (.int .u64 e.ad.lo) := by subst hWWx; (first | (simp [go_sem, *]; done) | (simp (disch := first | omega | (simp; omega) | (simp [go_sem, *]; done)) [go_sem, World.cell?_setCell_far, World.cell?_alloc_past, World.frozen?_alloc_past, *]; done))
      have x4 : WWx.cell? ⟨w.heap.size, 4, none⟩ = some (.int .i64 e.port) := by subst hWWx; (first | (simp [go_sem, *]; done) | (simp (disch := first | omega | (simp; omega) | (simp [go_sem, *]; done)) [go_sem, World.cell?_setCell_far, World.cell?_alloc_past, World.frozen?_alloc_past, *]; done))
      have x5 : WWx.cell? ⟨w.heap.size, 5, none⟩ = some (.int .i64 n) := by subst hWWx; (first | (simp [go_sem, *]; done) | (simp (disch := first | omega | (simp; omega) | (simp [go_sem, *]; done)) [go_sem, World.cell?_setCell_far, World.cell?_alloc_past, World.frozen?_alloc_past, *]; done))
      have x6 : WWx.cell? ⟨w.heap.size, 6, none⟩ = some (.int .i64 till) := by subst hWWx; (first | (simp [go_sem, *]; done) | (simp (disch := first | omega | (simp; omega) | (simp [go_sem, *]; done)) [go_sem, World.cell?_setCell_far, World.cell?_alloc_past, World.frozen?_alloc_past, *]; done))
      have x7 : WWx.cell? ⟨w.heap.size, 7, none⟩ = some (.slice a k c) := by subst hWWx; (first | (simp [go_sem, *]; done) | (simp (disch := first | omega | (simp; omega) | (simp [go_sem, *]; done)) [go_sem, World.cell?_setCell_far, World.cell?_alloc_past, World.frozen?_alloc_past, *]; done))
      have bwx : Below w.heap.size w WWx := by subst hWWx; (repeat (first | with_reducible assumption | with_reducible exact Below.refl _ _ | with_reducible refine Below.setCell ?_ (by first | omega | (simp; done) | (simp; omega)) _ | with_reducible refine Below.alloc ?_ (by first | omega | (simp; done) | (simp; omega)) _ | with_reducible refine Below.drew ?_ | (with_reducible refine Below.trans ?_ (Below.mono (by with_reducible assumption) (by first | omega | (simp; done) | (simp; omega)))) | (refine Below.trans ?_ (Below.mono (by assumption) (by first | omega | (simp; done) | (simp; omega))))))
      have lwx : w.heap.size < w1.heap.size := by omega
      have zwx := hB.lt
      clear hWWx
      have own0 := owns_one hB (Nat.le_refl _)
      have bel0 := Below.refl w1.heap.size WWx
      go_wp2_with (first | (go_at_call 73; (with_reducible refine (HN1.out _).mono ?_); rintro e wc1 ⟨vc1, rfl, oc1, bc1⟩; have zc1 := bc1.size; have belc1 := Below.trans bel0 (bc1.mono (show w1.heap.size ≤ _ from by omega)); have ownc1 := owns_below own0 bc1; have dc1 := fun o => belc1.cell (p := ⟨w.heap.size, o, none⟩) lwx) | (at_builtin; refine list_app_reads strRow rfl (.tmp 25) (.tmp 28) rfl w1.heap.size _ _ _ rfl ownc1 _ L1.length (L1.map sv) rfl (owns_reads oc1) (svs_one _) (by omega) (by omega) (by omega) w1.heap.size WWx belc1 (Nat.le_refl _) ?_; intro vg1 wg1 owng1 belg1; have zg1 := belg1.size; have dg1 := fun o => belg1.cell (p := ⟨w.heap.size, o, none⟩) lwx) | (go_at_call 73; (with_reducible refine (HN2.out _).mono ?_); rintro e wc2 ⟨vc2, rfl, oc2, bc2⟩; have zc2 := bc2.size; have belc2 := Below.trans belg1 (bc2.mono (show w1.heap.size ≤ _ from by omega)); have ownc2 := owns_below owng1 bc2; have dc2 := fun o => belc2.cell (p := ⟨w.heap.size, o, none⟩) lwx) | (at_builtin; refine list_app_reads strRow rfl (.tmp 30) (.tmp 33) rfl w1.heap.size _ _ _ rfl ownc2 _ L2.length (L2.map sv) rfl (owns_reads oc2) (svs_one _) (by omega) (by omega) (by omega) w1.heap.size WWx belc2 (Nat.le_refl _) ?_; intro vg2 wg2 owng2 belg2; have zg2 := belg2.size; have dg2 := fun o => belg2.cell (p := ⟨w.heap.size, o, none⟩) lwx) | (go_at_call 73; (with_reducible refine (HN3.out _).mono ?_); rintro e wc3 ⟨vc3, rfl, oc3, bc3⟩; have zc3 := bc3.size; have belc3 := Below.trans belg2 (bc3.mono (show w1.heap.size ≤ _ from by omega)); have ownc3 := owns_below owng2 bc3; have dc3 := fun o => belc3.cell (p := ⟨w.heap.size, o, none⟩) lwx) | (at_builtin; refine list_app_reads strRow rfl (.tmp 35) (.tmp 39) rfl w1.heap.size _ _ _ rfl ownc3 _ L3.length (L3.map sv) rfl (owns_reads oc3) (svs_one _) (by omega) (by omega) (by omega) w1.heap.size WWx belc3 (Nat.le_refl _) ?_; intro vg3 wg3 owng3 belg3; have zg3 := belg3.size; have dg3 := fun o => belg3.cell (p := ⟨w.heap.size, o, none⟩) lwx) | (go_at_call 74; (with_reducible refine (HROW.out _ _ _ _ (owns_reads owng3) (by simp; omega) (by simp) (by simp; omega) (by have := HL.out; omega)).mono ?_); rintro e wz ⟨rfl, bz⟩))
      go_ret
      exact ⟨ret_str (by simp), below2 (bwx.trans (belg3.mono (Nat.le_of_lt lwx))) bz⟩
    · rw [if_neg h0] at hh
      subst hh
      have q0 : ((bs hd).toList == []) = false := by rw [bs_toL]; simpa using h0
      clear h0
      go_enter Try.func15, Try.ntmps15
      go_upto_region 4 with (go_at_call 71; (with_reducible refine (HC.out _).mono ?_); rintro e w1 ⟨rfl, b1⟩; obtain ⟨c1, f1⟩ := bcell b1; have z1 := b1.size; (try simp at z1); have l1a : w.heap.size < w1.heap.size := (by omega); have n1a := Nat.ne_of_lt l1a; have d1a := fun o => c1 (w.heap.size) o (by first | omega | (simp; done) | (simp; omega)); clear c1 f1)
      go_name_world WWx hWWx
      have hB : BlockIs WWx w1.heap.size [.string (bs hd)] 9 := by subst hWWx; exact BlockIs.new w1 [.string (bs hd)] 9
      have x0 : WWx.cell? ⟨w.heap.size, 0, none⟩ = some (.int .i64 code) := by subst hWWx; (first | (simp [go_sem, *]; done) | (simp (disch := first | omega | (simp; omega) | (simp [go_sem, *]; done)) [go_sem, World.cell?_setCell_far, World.cell?_alloc_past, World.frozen?_alloc_past, *]; done))
      have x1 : WWx.cell? ⟨w.heap.size, 1, none⟩ = some (.bool e.ad.v6) := by subst hWWx; (first | (simp [go_sem, *]; done) | (simp (disch := first | omega | (simp; omega) | (simp [go_sem, *]; done)) [go_sem, World.cell?_setCell_far, World.cell?_alloc_past, World.frozen?_alloc_past, *]; done))
      have x2 : WWx.cell? ⟨w.heap.size, 2, none⟩ = some (.int .u64 e.ad.hi) := by subst hWWx; (first | (simp [go_sem, *]; done) | (simp (disch := first | omega | (simp; omega) | (simp [go_sem, *]; done)) [go_sem, World.cell?_setCell_far, World.cell?_alloc_past, World.frozen?_alloc_past, *]; done))
      have x3 : WWx.cell? ⟨w.heap.size, 3, none⟩ = some (.int .u64 e.ad.lo) := by subst hWWx; (first | (simp [go_sem, *]; done) | (simp (disch := first | omega | (simp; omega) | (simp [go_sem, *]; done)) [go_sem, World.cell?_setCell_far, World.cell?_alloc_past, World.frozen?_alloc_past, *]; done))
      have x4 : WWx.cell? ⟨w.heap.size, 4, none⟩ = some (.int .i64 e.port) := by subst hWWx; (first | (simp [go_sem, *]; done) | (simp (disch := first | omega | (simp; omega) | (simp [go_sem, *]; done)) [go_sem, World.cell?_setCell_far, World.cell?_alloc_past, World.frozen?_alloc_past, *]; done))
      have x5 : WWx.cell? ⟨w.heap.size, 5, none⟩ = some (.int .i64 n) := by subst hWWx; (first | (simp [go_sem, *]; done) | (simp (disch := first | omega | (simp; omega) | (simp [go_sem, *]; done)) [go_sem, World.cell?_setCell_far, World.cell?_alloc_past, World.frozen?_alloc_past, *]; done))
      have x6 : WWx.cell? ⟨w.heap.size, 6, none⟩ = some (.int .i64 till) := by subst hWWx; (first | (simp [go_sem, *]; done) | (simp (disch := first | omega | (simp; omega) | (simp [go_sem, *]; done)) [go_sem, World.cell?_setCell_far, World.cell?_alloc_past, World.frozen?_alloc_past, *]; done))
      have x7 : WWx.cell? ⟨w.heap.size, 7, none⟩ = some (.slice a k c) := by subst hWWx; (first | (simp [go_sem, *]; done) | (simp (disch := first | omega | (simp; omega) | (simp [go_sem, *]; done)) [go_sem, World.cell?_setCell_far, World.cell?_alloc_past, World.frozen?_alloc_past, *]; done))
      have bwx : Below w.heap.size w WWx := by subst hWWx; (repeat (first | with_reducible assumption | with_reducible exact Below.refl _ _ | with_reducible refine Below.setCell ?_ (by first | omega | (simp; done) | (simp; omega)) _ | with_reducible refine Below.alloc ?_ (by first | omega | (simp; done) | (simp; omega)) _ | with_reducible refine Below.drew ?_ | (with_reducible refine Below.trans ?_ (Below.mono (by with_reducible assumption) (by first | omega | (simp; done) | (simp; omega)))) | (refine Below.trans ?_ (Below.mono (by assumption) (by first | omega | (simp; done) | (simp; omega))))))
      have lwx : w.heap.size < w1.heap.size := by omega
      have zwx := hB.lt
      clear hWWx
      have own0 := owns_one hB (Nat.le_refl _)
      have bel0 := Below.refl w1.heap.size WWx
      go_wp2_with (first | (go_at_call 73; (with_reducible refine (HN1.out _).mono ?_); rintro e wc1 ⟨vc1, rfl, oc1, bc1⟩; have zc1 := bc1.size; have belc1 := Below.trans bel0 (bc1.mono (show w1.heap.size ≤ _ from by omega)); have ownc1 := owns_below own0 bc1; have dc1 := fun o => belc1.cell (p := ⟨w.heap.size, o, none⟩) lwx) | (at_builtin; refine list_app_reads strRow rfl (.tmp 25) (.tmp 28) rfl w1.heap.size _ _ _ rfl ownc1 _ L1.length (L1.map sv) rfl (owns_reads oc1) (svs_one _) (by omega) (by omega) (by omega) w1.heap.size WWx belc1 (Nat.le_refl _) ?_; intro vg1 wg1 owng1 belg1; have zg1 := belg1.size; have dg1 := fun o => belg1.cell (p := ⟨w.heap.size, o, none⟩) lwx) | (go_at_call 73; (with_reducible refine (HN2.out _).mono ?_); rintro e wc2 ⟨vc2, rfl, oc2, bc2⟩; have zc2 := bc2.size; have belc2 := Below.trans belg1 (bc2.mono (show w1.heap.size ≤ _ from by omega)); have ownc2 := owns_below owng1 bc2; have dc2 := fun o => belc2.cell (p := ⟨w.heap.size, o, none⟩) lwx) | (at_builtin; refine list_app_reads strRow rfl (.tmp 30) (.tmp 33) rfl w1.heap.size _ _ _ rfl ownc2 _ L2.length (L2.map sv) rfl (owns_reads oc2) (svs_one _) (by omega) (by omega) (by omega) w1.heap.size WWx belc2 (Nat.le_refl _) ?_; intro vg2 wg2 owng2 belg2; have zg2 := belg2.size; have dg2 := fun o => belg2.cell (p := ⟨w.heap.size, o, none⟩) lwx) | (go_at_call 73; (with_reducible refine (HN3.out _).mono ?_); rintro e wc3 ⟨vc3, rfl, oc3, bc3⟩; have zc3 := bc3.size; have belc3 := Below.trans belg2 (bc3.mono (show w1.heap.size ≤ _ from by omega)); have ownc3 := owns_below owng2 bc3; have dc3 := fun o => belc3.cell (p := ⟨w.heap.size, o, none⟩) lwx) | (at_builtin; refine list_app_reads strRow rfl (.tmp 35) (.tmp 39) rfl w1.heap.size _ _ _ rfl ownc3 _ L3.length (L3.map sv) rfl (owns_reads oc3) (svs_one _) (by omega) (by omega) (by omega) w1.heap.size WWx belc3 (Nat.le_refl _) ?_; intro vg3 wg3 owng3 belg3; have zg3 := belg3.size; have dg3 := fun o => belg3.cell (p := ⟨w.heap.size, o, none⟩) lwx) | (go_at_call 74; (with_reducible refine (HROW.out _ _ _ _ (owns_reads owng3) (by simp; omega) (by simp) (by simp; omega) (by have := HL.out; omega)).mono ?_); rintro e wz ⟨rfl, bz⟩))
      go_ret
      exact ⟨ret_str (by simp), below2 (bwx.trans (belg3.mono (Nat.le_of_lt lwx))) bz⟩
  · have he : endL e = [eqL endW (enText e)] := if_neg hz
    rw [he] at HROW HL hel ⊢
    rw [decide_eq_false hz] at hq
    unfold zeroEn at hq
    simp only [show ((0 : Nat) : Int) = 0 from rfl] at hq
    clear hz he
    generalize enText e = t at *
    have hl : t.length ≤ 3000 := by rw [tailL_one] at hel; unfold eqL at hel; simp at hel; omega
    have hres : (⟨#[101, 110, 100, 61]⟩ : ByteArray) ++ bs t = bs (eqL endW t) := by rw [show (⟨#[101, 110, 100, 61]⟩ : ByteArray) = bs [101, 110, 100, 61] from rfl]; unfold eqL endW; simp only [bs_append]; simp
    have s1 : ¬ 9223372036854775807 < 4 + (bs t).size := by rw [bs_size]; omega
    have HRES := Lib.hid hres
    clear hres hl hel
    by_cases h0 : nm = []
    · rw [if_pos h0] at hh
      subst h0; subst hh
      have q0 : ((bs []).toList == []) = true := by rw [bs_toL]; rfl
      go_enter Try.func15, Try.ntmps15
      go_upto_region 4 with (go_at_call 71; (with_reducible refine (HC.out _).mono ?_); rintro e w1 ⟨rfl, b1⟩; obtain ⟨c1, f1⟩ := bcell b1; have z1 := b1.size; (try simp at z1); have l1a : w.heap.size < w1.heap.size := (by omega); have n1a := Nat.ne_of_lt l1a; have d1a := fun o => c1 (w.heap.size) o (by first | omega | (simp; done) | (simp; omega)); clear c1 f1)
      go_name_world WWx hWWx
      have hB : BlockIs WWx w1.heap.size [.string (bs [45])] 9 := by subst hWWx; exact BlockIs.new w1 [.string (bs [45])] 9
      have x0 : WWx.cell? ⟨w.heap.size, 0, none⟩ = some (.int .i64 code) := by subst hWWx; (first | (simp [go_sem, *]; done) | (simp (disch := first | omega | (simp; omega) | (simp [go_sem, *]; done)) [go_sem, World.cell?_setCell_far, World.cell?_alloc_past, World.frozen?_alloc_past, *]; done))
      have x1 : WWx.cell? ⟨w.heap.size, 1, none⟩ = some (.bool e.ad.v6) := by subst hWWx; (first | (simp [go_sem, *]; done) | (simp (disch := first | omega | (simp; omega) | (simp [go_sem, *]; done)) [go_sem, World.cell?_setCell_far, World.cell?_alloc_past, World.frozen?_alloc_past, *]; done))
      have x2 : WWx.cell? ⟨w.heap.size, 2, none⟩ = some (.int .u64 e.ad.hi) := by subst hWWx; (first | (simp [go_sem, *]; done) | (simp (disch := first | omega | (simp; omega) | (simp [go_sem, *]; done)) [go_sem, World.cell?_setCell_far, World.cell?_alloc_past, World.frozen?_alloc_past, *]; done))
      have x3 : WWx.cell? ⟨w.heap.size, 3, none⟩ = some (.int .u64 e.ad.lo) := by subst hWWx; (first | (simp [go_sem, *]; done) | (simp (disch := first | omega | (simp; omega) | (simp [go_sem, *]; done)) [go_sem, World.cell?_setCell_far, World.cell?_alloc_past, World.frozen?_alloc_past, *]; done))
      have x4 : WWx.cell? ⟨w.heap.size, 4, none⟩ = some (.int .i64 e.port) := by subst hWWx; (first | (simp [go_sem, *]; done) | (simp (disch := first | omega | (simp; omega) | (simp [go_sem, *]; done)) [go_sem, World.cell?_setCell_far, World.cell?_alloc_past, World.frozen?_alloc_past, *]; done))
      have x5 : WWx.cell? ⟨w.heap.size, 5, none⟩ = some (.int .i64 n) := by subst hWWx; (first | (simp [go_sem, *]; done) | (simp (disch := first | omega | (simp; omega) | (simp [go_sem, *]; done)) [go_sem, World.cell?_setCell_far, World.cell?_alloc_past, World.frozen?_alloc_past, *]; done))
      have x6 : WWx.cell? ⟨w.heap.size, 6, none⟩ = some (.int .i64 till) := by subst hWWx; (first | (simp [go_sem, *]; done) | (simp (disch := first | omega | (simp; omega) | (simp [go_sem, *]; done)) [go_sem, World.cell?_setCell_far, World.cell?_alloc_past, World.frozen?_alloc_past, *]; done))
      have x7 : WWx.cell? ⟨w.heap.size, 7, none⟩ = some (.slice a k c) := by subst hWWx; (first | (simp [go_sem, *]; done) | (simp (disch := first | omega | (simp; omega) | (simp [go_sem, *]; done)) [go_sem, World.cell?_setCell_far, World.cell?_alloc_past, World.frozen?_alloc_past, *]; done))
      have bwx : Below w.heap.size w WWx := by subst hWWx; (repeat (first | with_reducible assumption | with_reducible exact Below.refl _ _ | with_reducible refine Below.setCell ?_ (by first | omega | (simp; done) | (simp; omega)) _ | with_reducible refine Below.alloc ?_ (by first | omega | (simp; done) | (simp; omega)) _ | with_reducible refine Below.drew ?_ | (with_reducible refine Below.trans ?_ (Below.mono (by with_reducible assumption) (by first | omega | (simp; done) | (simp; omega)))) | (refine Below.trans ?_ (Below.mono (by assumption) (by first | omega | (simp; done) | (simp; omega))))))
      have lwx : w.heap.size < w1.heap.size := by omega
      have zwx := hB.lt
      clear hWWx
      have own0 := owns_one hB (Nat.le_refl _)
      have bel0 := Below.refl w1.heap.size WWx
      go_wp2_with (first | (go_at_call 72; (with_reducible refine (HE.out _).mono ?_); rintro e wa ⟨rfl, ba⟩; have za := ba.size; have bela := Below.trans bel0 (ba.mono (Nat.le_of_lt zwx)); have owna := owns_below own0 ba; have da := fun o => bela.cell (p := ⟨w.heap.size, o, none⟩) lwx) | (at_builtin; refine list_app strRow rfl (.tmp 18) (.tmp 23) rfl w1.heap.size _ _ _ rfl owna [_] rfl rfl rfl (by omega) (by omega) (by omega) w1.heap.size WWx bela (Nat.le_refl _) ?_; intro vb wb ownb belb; have zb := belb.size; have db := fun o => belb.cell (p := ⟨w.heap.size, o, none⟩) lwx) | (go_at_call 73; (with_reducible refine (HN1.out _).mono ?_); rintro e wc1 ⟨vc1, rfl, oc1, bc1⟩; have zc1 := bc1.size; have belc1 := Below.trans belb (bc1.mono (show w1.heap.size ≤ _ from by omega)); have ownc1 := owns_below ownb bc1; have dc1 := fun o => belc1.cell (p := ⟨w.heap.size, o, none⟩) lwx) | (at_builtin; refine list_app_reads strRow rfl (.tmp 25) (.tmp 28) rfl w1.heap.size _ _ _ rfl ownc1 _ L1.length (L1.map sv) rfl (owns_reads oc1) (svs_one _) (by omega) (by omega) (by omega) w1.heap.size WWx belc1 (Nat.le_refl _) ?_; intro vg1 wg1 owng1 belg1; have zg1 := belg1.size; have dg1 := fun o => belg1.cell (p := ⟨w.heap.size, o, none⟩) lwx) | (go_at_call 73; (with_reducible refine (HN2.out _).mono ?_); rintro e wc2 ⟨vc2, rfl, oc2, bc2⟩; have zc2 := bc2.size; have belc2 := Below.trans belg1 (bc2.mono (show w1.heap.size ≤ _ from by omega)); have ownc2 := owns_below owng1 bc2; have dc2 := fun o => belc2.cell (p := ⟨w.heap.size, o, none⟩) lwx) | (at_builtin; refine list_app_reads strRow rfl (.tmp 30) (.tmp 33) rfl w1.heap.size _ _ _ rfl ownc2 _ L2.length (L2.map sv) rfl (owns_reads oc2) (svs_one _) (by omega) (by omega) (by omega) w1.heap.size WWx belc2 (Nat.le_refl _) ?_; intro vg2 wg2 owng2 belg2; have zg2 := belg2.size; have dg2 := fun o => belg2.cell (p := ⟨w.heap.size, o, none⟩) lwx) | (go_at_call 73; (with_reducible refine (HN3.out _).mono ?_); rintro e wc3 ⟨vc3, rfl, oc3, bc3⟩; have zc3 := bc3.size; have belc3 := Below.trans belg2 (bc3.mono (show w1.heap.size ≤ _ from by omega)); have ownc3 := owns_below owng2 bc3; have dc3 := fun o => belc3.cell (p := ⟨w.heap.size, o, none⟩) lwx) | (at_builtin; refine list_app_reads strRow rfl (.tmp 35) (.tmp 39) rfl w1.heap.size _ _ _ rfl ownc3 _ L3.length (L3.map sv) rfl (owns_reads oc3) (svs_one _) (by omega) (by omega) (by omega) w1.heap.size WWx belc3 (Nat.le_refl _) ?_; intro vg3 wg3 owng3 belg3; have zg3 := belg3.size; have dg3 := fun o => belg3.cell (p := ⟨w.heap.size, o, none⟩) lwx) | (go_at_call 74; (with_reducible refine (HROW.out _ _ _ _ (owns_reads owng3) (by simp; omega) (by simp [sv, HRES.out]) (by simp; omega) (by have := HL.out; omega)).mono ?_); rintro e wz ⟨rfl, bz⟩))
      go_ret
      exact ⟨ret_str (by simp), below2 (bwx.trans (belg3.mono (Nat.le_of_lt lwx))) bz⟩
    · rw [if_neg h0] at hh
      subst hh
      have q0 : ((bs hd).toList == []) = false := by rw [bs_toL]; simpa using h0
      clear h0
      go_enter Try.func15, Try.ntmps15
      go_upto_region 4 with (go_at_call 71; (with_reducible refine (HC.out _).mono ?_); rintro e w1 ⟨rfl, b1⟩; obtain ⟨c1, f1⟩ := bcell b1; have z1 := b1.size; (try simp at z1); have l1a : w.heap.size < w1.heap.size := (by omega); have n1a := Nat.ne_of_lt l1a; have d1a := fun o => c1 (w.heap.size) o (by first | omega | (simp; done) | (simp; omega)); clear c1 f1)
      go_name_world WWx hWWx
      have hB : BlockIs WWx w1.heap.size [.string (bs hd)] 9 := by subst hWWx; exact BlockIs.new w1 [.string (bs hd)] 9
      have x0 : WWx.cell? ⟨w.heap.size, 0, none⟩ = some (.int .i64 code) := by subst hWWx; (first | (simp [go_sem, *]; done) | (simp (disch := first | omega | (simp; omega) | (simp [go_sem, *]; done)) [go_sem, World.cell?_setCell_far, World.cell?_alloc_past, World.frozen?_alloc_past, *]; done))
      have x1 : WWx.cell? ⟨w.heap.size, 1, none⟩ = some (.bool e.ad.v6) := by subst hWWx; (first | (simp [go_sem, *]; done) | (simp (disch := first | omega | (simp; omega) | (simp [go_sem, *]; done)) [go_sem, World.cell?_setCell_far, World.cell?_alloc_past, World.frozen?_alloc_past, *]; done))
      have x2 : WWx.cell? ⟨w.heap.size, 2, none⟩ = some (.int .u64 e.ad.hi) := by subst hWWx; (first | (simp [go_sem, *]; done) | (simp (disch := first | omega | (simp; omega) | (simp [go_sem, *]; done)) [go_sem, World.cell?_setCell_far, World.cell?_alloc_past, World.frozen?_alloc_past, *]; done))
      have x3 : WWx.cell? ⟨w.heap.size, 3, none⟩ = some (.int .u64 e.ad.lo) := by subst hWWx; (first | (simp [go_sem, *]; done) | (simp (disch := first | omega | (simp; omega) | (simp [go_sem, *]; done)) [go_sem, World.cell?_setCell_far, World.cell?_alloc_past, World.frozen?_alloc_past, *]; done))
      have x4 : WWx.cell? ⟨w.heap.size, 4, none⟩ = some (.int .i64 e.port) := by subst hWWx; (first | (simp [go_sem, *]; done) | (simp (disch := first | omega | (simp; omega) | (simp [go_sem, *]; done)) [go_sem, World.cell?_setCell_far, World.cell?_alloc_past, World.frozen?_alloc_past, *]; done))
      have x5 : WWx.cell? ⟨w.heap.size, 5, none⟩ = some (.int .i64 n) := by subst hWWx; (first | (simp [go_sem, *]; done) | (simp (disch := first | omega | (simp; omega) | (simp [go_sem, *]; done)) [go_sem, World.cell?_setCell_far, World.cell?_alloc_past, World.frozen?_alloc_past, *]; done))
      have x6 : WWx.cell? ⟨w.heap.size, 6, none⟩ = some (.int .i64 till) := by subst hWWx; (first | (simp [go_sem, *]; done) | (simp (disch := first | omega | (simp; omega) | (simp [go_sem, *]; done)) [go_sem, World.cell?_setCell_far, World.cell?_alloc_past, World.frozen?_alloc_past, *]; done))
      have x7 : WWx.cell? ⟨w.heap.size, 7, none⟩ = some (.slice a k c) := by subst hWWx; (first | (simp [go_sem, *]; done) | (simp (disch := first | omega | (simp; omega) | (simp [go_sem, *]; done)) [go_sem, World.cell?_setCell_far, World.cell?_alloc_past, World.frozen?_alloc_past, *]; done))
      have bwx : Below w.heap.size w WWx := by subst hWWx; (repeat (first | with_reducible assumption | with_reducible exact Below.refl _ _ | with_reducible refine Below.setCell ?_ (by first | omega | (simp; done) | (simp; omega)) _ | with_reducible refine Below.alloc ?_ (by first | omega | (simp; done) | (simp; omega)) _ | with_reducible refine Below.drew ?_ | (with_reducible refine Below.trans ?_ (Below.mono (by with_reducible assumption) (by first | omega | (simp; done) | (simp; omega)))) | (refine Below.trans ?_ (Below.mono (by assumption) (by first | omega | (simp; done) | (simp; omega))))))
      have lwx : w.heap.size < w1.heap.size := by omega
      have zwx := hB.lt
      clear hWWx
      have own0 := owns_one hB (Nat.le_refl _)
      have bel0 := Below.refl w1.heap.size WWx
      go_wp2_with (first | (go_at_call 72; (with_reducible refine (HE.out _).mono ?_); rintro e wa ⟨rfl, ba⟩; have za := ba.size; have bela := Below.trans bel0 (ba.mono (Nat.le_of_lt zwx)); have owna := owns_below own0 ba; have da := fun o => bela.cell (p := ⟨w.heap.size, o, none⟩) lwx) | (at_builtin; refine list_app strRow rfl (.tmp 18) (.tmp 23) rfl w1.heap.size _ _ _ rfl owna [_] rfl rfl rfl (by omega) (by omega) (by omega) w1.heap.size WWx bela (Nat.le_refl _) ?_; intro vb wb ownb belb; have zb := belb.size; have db := fun o => belb.cell (p := ⟨w.heap.size, o, none⟩) lwx) | (go_at_call 73; (with_reducible refine (HN1.out _).mono ?_); rintro e wc1 ⟨vc1, rfl, oc1, bc1⟩; have zc1 := bc1.size; have belc1 := Below.trans belb (bc1.mono (show w1.heap.size ≤ _ from by omega)); have ownc1 := owns_below ownb bc1; have dc1 := fun o => belc1.cell (p := ⟨w.heap.size, o, none⟩) lwx) | (at_builtin; refine list_app_reads strRow rfl (.tmp 25) (.tmp 28) rfl w1.heap.size _ _ _ rfl ownc1 _ L1.length (L1.map sv) rfl (owns_reads oc1) (svs_one _) (by omega) (by omega) (by omega) w1.heap.size WWx belc1 (Nat.le_refl _) ?_; intro vg1 wg1 owng1 belg1; have zg1 := belg1.size; have dg1 := fun o => belg1.cell (p := ⟨w.heap.size, o, none⟩) lwx) | (go_at_call 73; (with_reducible refine (HN2.out _).mono ?_); rintro e wc2 ⟨vc2, rfl, oc2, bc2⟩; have zc2 := bc2.size; have belc2 := Below.trans belg1 (bc2.mono (show w1.heap.size ≤ _ from by omega)); have ownc2 := owns_below owng1 bc2; have dc2 := fun o => belc2.cell (p := ⟨w.heap.size, o, none⟩) lwx) | (at_builtin; refine list_app_reads strRow rfl (.tmp 30) (.tmp 33) rfl w1.heap.size _ _ _ rfl ownc2 _ L2.length (L2.map sv) rfl (owns_reads oc2) (svs_one _) (by omega) (by omega) (by omega) w1.heap.size WWx belc2 (Nat.le_refl _) ?_; intro vg2 wg2 owng2 belg2; have zg2 := belg2.size; have dg2 := fun o => belg2.cell (p := ⟨w.heap.size, o, none⟩) lwx) | (go_at_call 73; (with_reducible refine (HN3.out _).mono ?_); rintro e wc3 ⟨vc3, rfl, oc3, bc3⟩; have zc3 := bc3.size; have belc3 := Below.trans belg2 (bc3.mono (show w1.heap.size ≤ _ from by omega)); have ownc3 := owns_below owng2 bc3; have dc3 := fun o => belc3.cell (p := ⟨w.heap.size, o, none⟩) lwx) | (at_builtin; refine list_app_reads strRow rfl (.tmp 35) (.tmp 39) rfl w1.heap.size _ _ _ rfl ownc3 _ L3.length (L3.map sv) rfl (owns_reads oc3) (svs_one _) (by omega) (by omega) (by omega) w1.heap.size WWx belc3 (Nat.le_refl _) ?_; intro vg3 wg3 owng3 belg3; have zg3 := belg3.size; have dg3 := fun o => belg3.cell (p := ⟨w.heap.size, o, none⟩) lwx) | (go_at_call 74; (with_reducible refine (HROW.out _ _ _ _ (owns_reads owng3) (by simp; omega) (by simp [sv, HRES.out]) (by simp; omega) (by have := HL.out; omega)).mono ?_); rintro e wz ⟨rfl, bz⟩))
      go_ret
      exact ⟨ret_str (by simp), below2 (bwx.trans (belg3.mono (Nat.le_of_lt lwx))) bz⟩
end Go.Proofs.Ytnohkfbapibmdaa
