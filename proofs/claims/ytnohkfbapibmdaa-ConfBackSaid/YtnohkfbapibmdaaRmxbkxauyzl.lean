/- Texts put together: ConfP. No condition. -/
import Derived.Test.YtnohkfbapibmdaaRebceokvxyn
namespace Go.Proofs.Ytnohkfbapibmdaa
open Go.RowKit
set_option linter.unusedSimpArgs false
set_option linter.unusedVariables false

theorem results_cell3 {fn : Func} {t a b : Tmp} {ty : TypeId} (h : fn.results = #[.cell t ty, .tmp a, .tmp b]) {tmps : Array Value} {P : Program} {w : World} {B : Nat} (ht : tmps.getD t undef = .pointer (some ⟨B, 0, none⟩)) {v x y : Value} (hl : (loadVar ty ⟨B, 0, none⟩).run P w = .ok v w) (hx : tmps.getD a undef = x) (hy : tmps.getD b undef = y) :
    (results fn tmps).run P w = .ok (.tuple #[v, x, y]) w := by
  rw [show tmps.getD t undef = tmps[t]?.getD undef from by simp] at ht
  rw [show tmps.getD a undef = tmps[a]?.getD undef from by simp] at hx
  rw [show tmps.getD b undef = tmps[b]?.getD undef from by simp] at hy
  simp [results, h, asAddr, ht, hl, hx, hy]
def GivesCf (w : World) (r : Cf × Int × Int) (e : Ending) (w' : World) : Prop := e = .returned (.tuple #[.agg #[.int .i64 r.1.mi, .int .i64 r.1.mo, .int .i64 r.1.sh, .int .i64 r.1.mb, .int .i64 r.1.mbk, .int .u64 r.1.secret, .int .i64 r.1.qg, .int .i64 r.1.qp, .int .i64 r.1.qw, .int .i64 r.1.qt, .int .i64 r.1.half, .int .i64 r.1.limit, .int .i64 r.1.banfor, .int .i64 r.1.base, .int .i64 r.1.cap, .int .i64 r.1.jitter], .int .i64 r.2.1, .int .i64 r.2.2]) ∧ Below w.heap.size w w'
theorem rdRow_cut (w l : List UInt8) : rdRow w l = if Lib.hasPrefix l (w ++ [32]) = true ∧ (decParse (Lib.trimPrefix l (w ++ [32])) 9223372036854775807).2 = true then some (decParse (Lib.trimPrefix l (w ++ [32])) 9223372036854775807).1 else none := by
  unfold rdRow
  by_cases h : w ++ [32] <+: l
  · have hp : Lib.hasPrefix l (w ++ [32]) = true := List.isPrefixOf_iff_prefix.2 h
    have ht : Lib.trimPrefix l (w ++ [32]) = l.drop (w.length + 1) := by unfold Lib.trimPrefix; rw [if_pos hp]; simp
    rw [if_pos h, ht, hp]; simp
  · have hp : Lib.hasPrefix l (w ++ [32]) = false := by
      cases hh : Lib.hasPrefix l (w ++ [32]) with
      | false => rfl
      | true => exact absurd (List.isPrefixOf_iff_prefix.1 hh) h
    rw [if_neg h, hp]; simp
theorem lines_part_len (s : List UInt8) : ∀ x ∈ (linesL s).1, x.length ≤ s.length := by
  intro x hx
  unfold linesL at hx
  split at hx
  · simp at hx
  · split at hx
    · simp at hx
    · split at hx
      · simp at hx
      · split at hx
        · simp at hx
        · have := splitL_part_len 10 _ x hx
          simp at this; omega
def iv64 (n : Int) : Value := .int .i64 n
/-- sixteen numbers, of which so many are known -/
def nArr (xs : List Int) : List Value := (xs ++ List.replicate (16 - xs.length) 0).map iv64
theorem nArr_len {xs : List Int} (h : xs.length ≤ 16) : (nArr xs).length = 16 := by unfold nArr; simp; omega
theorem nArr_at {xs : List Int} (h : xs.length < 16) : (nArr xs)[xs.length]? = some (iv64 0) := by
  unfold nArr
  rw [List.getElem?_map, List.getElem?_append_right (Nat.le_refl _), Nat.sub_self, List.getElem?_replicate, if_pos (by omega)]; rfl
theorem nArr_set {xs : List Int} (h : xs.length < 16) (x : Int) : (nArr xs).set xs.length (iv64 x) = nArr (xs ++ [x]) := by
  unfold nArr
  rw [← List.map_set, List.set_append_right _ _ (Nat.le_refl _), Nat.sub_self]
  congr 1
  rw [List.length_append, List.length_singleton, show 16 - xs.length = (16 - (xs.length + 1)) + 1 from by omega, List.replicate_succ, List.set_cons_zero]
  simp
theorem nArr_all {xs : List Int} (h : xs.length = 16) : Value.agg (nArr xs).toArray = arr16 (fun i => xs.getD i 0) := by
  match xs, h with
  | [a0, a1, a2, a3, a4, a5, a6, a7, a8, a9, a10, a11, a12, a13, a14, a15], _ => rfl
theorem list_load_arr {P : Program} {ops : Array Oper} {rest : List Oper} {o : Oper} {a : Act} {w : World} {Q : Exit → Act → World → Prop} (hgd : o.guard = none) (ty : TypeId) (x : Operand) (ho : o.op = .load ty x) (g : Nat) (cells : List Value) (t : TypeId) (hB : BlockIs w g cells t)
    (hx : a.eval x = .pointer (some ⟨g, 0, none⟩)) {n : Nat} {e : TypeId} (hu : P.underlying ty = some (.array n e)) (hi : (P.info? ty).map (·.size) = some cells.length)
    (h : wpList P ops Q rest (a.put o.dst (.agg cells.toArray)) w) : wpList P ops Q (o :: rest) a w :=
  wpList_load_row hgd ty x ho g hx t cells.toArray (0, 0) _ hB hu rfl (by simpa using hi) h
theorem cfWords_at (k : Nat) (hk : k < 16) : cfWords[k]? = some (cfWd k) := by
  rcases (by omega : k = 0 ∨ k = 1 ∨ k = 2 ∨ k = 3 ∨ k = 4 ∨ k = 5 ∨ k = 6 ∨ k = 7 ∨ k = 8 ∨ k = 9 ∨ k = 10 ∨ k = 11 ∨ k = 12 ∨ k = 13 ∨ k = 14 ∨ k = 15) with rfl | rfl | rfl | rfl | rfl | rfl | rfl | rfl | rfl | rfl | rfl | rfl | rfl | rfl | rfl | rfl <;> rfl
theorem cfWd_len (k : Nat) : (cfWd k).length ≤ 6 := by
  by_cases hk : k < 16
  · have := (by decide : ∀ w ∈ cfWords, w.length ≤ 6) _ (List.mem_of_getElem? (cfWords_at k hk)); exact this
  · unfold cfWd; rw [List.getD_eq_getElem?_getD, List.getElem?_eq_none (by show 16 ≤ k; omega)]; simp
theorem cfGo_stop {L : List (List UInt8)} {xs : List Int} (h : RdTo cfWords L xs) (hk : xs.length < 16) (hs : L[xs.length]? = none ∨ ∃ l, L[xs.length]? = some l ∧ rdRow (cfWd xs.length) l = none) : cfGo (L, 0) = (zeroCf, (xs.length : Int) + 1, 2) := by
  unfold cfGo
  rw [if_neg (by simp)]
  simp only
  rw [rdRows_stop 0 h (cfWords_at _ hk) hs]
  simp only [Nat.zero_add]
  rfl
theorem cfGo_all {L : List (List UInt8)} {xs : List Int} (h : RdTo cfWords L xs) (hk : xs.length = 16) : cfGo (L, 0) = cfDone (decide (16 < L.length)) xs := by
  unfold cfGo
  rw [if_neg (by simp)]
  simp only
  rw [rdRows_all 0 h (by rw [hk]; rfl)]
theorem rdTo_five {L : List (List UInt8)} {xs : List Int} (h : RdTo cfWords L xs) (hk : xs.length = 16) : 0 ≤ xs.getD 5 0 ∧ xs.getD 5 0 ≤ 9223372036854775807 := by
  obtain ⟨w, l, x, _, _, hx, hrow⟩ := h.2.2 5 (by omega)
  rw [List.getD_eq_getElem?_getD, hx]
  exact ⟨(rdRow_line hrow).2.1, (rdRow_line hrow).2.2⟩
set_option maxRecDepth 100000 in
set_option maxHeartbeats 16000000 in
theorem cfParse_any (s : ByteArray) (w : World) (hs : s.size ≤ 4000000000) : Calls Try.prog 47 #[.string s] w (GivesCf w (cfParse s.data.toList)) := by
  have hL := fun w => lines_any s w (by omega)
  have hpl := lines_part_len s.data.toList
  rw [len_data] at hpl
  unfold cfParse
  generalize linesL s.data.toList = r at *
  obtain ⟨L, e⟩ := r
  unfold GivesLines at hL
  simp only at hL
  have HL := Lib.hid hL; clear hL
  simp only at hpl
  have HPL := Lib.hid hpl; clear hpl
  unfold GivesCf
  have hZ := BlockIs.new w [.int .i64 zeroCf.mi, .int .i64 zeroCf.mo, .int .i64 zeroCf.sh, .int .i64 zeroCf.mb, .int .i64 zeroCf.mbk, .int .u64 zeroCf.secret, .int .i64 zeroCf.qg, .int .i64 zeroCf.qp, .int .i64 zeroCf.qw, .int .i64 zeroCf.qt, .int .i64 zeroCf.half, .int .i64 zeroCf.limit, .int .i64 zeroCf.banfor, .int .i64 zeroCf.base, .int .i64 zeroCf.cap, .int .i64 zeroCf.jitter] 70
  unfold zeroCf at hZ
  simp only [show ((0 : Nat) : Int) = 0 from rfl] at hZ
  by_cases he : e ≠ 0
  · have hr : cfGo (L, e) = (zeroCf, 0, e) := if_pos he
    rw [hr]
    have q : (e != 0) = true := by simpa using he
    clear hr he
    go_enter Try.func47, Try.ntmps47
    go_wp2_with (first | (go_at_call 100; (with_reducible refine (HL.out _).mono ?_); rintro e w1 ⟨v1, rfl, ho1, b1⟩; have z1 := b1.size; have hZ1 := hZ.below b1) | (refine list_store_blk rfl 70 _ _ rfl (w.heap.size) _ _ 70 hZ1 rfl rfl (by kernel_rfl) rfl (by simp [Value.oneCell']) w.heap.size w (by (repeat (first | with_reducible assumption | with_reducible exact Below.refl _ _ | with_reducible refine Below.setCell ?_ (by first | omega | (simp; done) | (simp; omega)) _ | with_reducible refine Below.alloc ?_ (by first | omega | (simp; done) | (simp; omega)) _ | with_reducible refine Below.drew ?_ | (with_reducible refine Below.trans ?_ (Below.mono (by with_reducible assumption) (by first | omega | (simp; done) | (simp; omega)))) | (refine Below.trans ?_ (Below.mono (by assumption) (by first | omega | (simp; done) | (simp; omega))))))) (by omega) ?_; intro w2 hO hoth hsz bw2))
    exact bodyPost_ret (results_cell3 rfl rfl (hO.loadVar Try.underlying70 (by kernel_rfl)) rfl rfl) rfl ⟨rfl, bw2⟩
  · obtain rfl : e = 0 := by omega
    have HSTOP := Lib.hid (fun xs h hk hs => @cfGo_stop L xs h hk hs)
    have HALL := Lib.hid (fun xs h hk => @cfGo_all L xs h hk)
    have HA := Lib.hid (fun w => cfAll_any zeroCf (by decide) w)
    have HI := Lib.hid (fun k hk W => cfIndex zeroCf k hk W)
    unfold zeroCf at HA
    simp only [show ((0 : Nat) : Int) = 0 from rfl] at HA
    rw [show (⟨0, 0, 0, 0, 0, 0, 0, 0, 0, 0, 0, 0, 0, 0, 0, 0⟩ : Cf) = zeroCf from rfl] at HA
    generalize (cfArr zeroCf).toArray = A at *
    generalize cfGo (L, 0) = G at *
    clear he
    go_enter Try.func47, Try.ntmps47
    go_wp2_with (first | (go_at_call 100; (with_reducible refine (HL.out _).mono ?_); rintro e w1 ⟨v1, rfl, ho1, b1⟩; have z1 := b1.size; have hZ1 := hZ.below b1) | (go_at_call 101; (refine (HA.out _).mono ?_); rintro e w2 ⟨rfl, b2⟩))
    simp only [World.size_alloc] at z1
    have bw1 : Below w.heap.size w w1 := by (repeat (first | with_reducible assumption | with_reducible exact Below.refl _ _ | with_reducible refine Below.setCell ?_ (by first | omega | (simp; done) | (simp; omega)) _ | with_reducible refine Below.alloc ?_ (by first | omega | (simp; done) | (simp; omega)) _ | with_reducible refine Below.drew ?_ | (with_reducible refine Below.trans ?_ (Below.mono (by with_reducible assumption) (by first | omega | (simp; done) | (simp; omega)))) | (refine Below.trans ?_ (Below.mono (by assumption) (by first | omega | (simp; done) | (simp; omega))))))
    have hb2 : Below w1.heap.size w1 w2 := ((Below.refl _ _).alloc (Nat.le_refl _) _).trans (b2.mono (by simp))
    have hN2 : BlockIs w2 w1.heap.size (nArr []) 119 := (BlockIs.new w1 (nArr []) 119).below b2
    obtain ⟨_, hLn, a, cap, rfl, ho⟩ := (owns_reads ho1).open
    have HRD := Lib.hid ho
    clear ho ho1 hZ
    go_loopw [26] (fun i wr => ∃ xs : List Int, xs.length ≤ 16 ∧ i = .int .i64 xs.length ∧ Hid (RdTo cfWords L xs) ∧ Hid (BlockIs wr w1.heap.size (nArr xs) 119) ∧ Below w1.heap.size w1 wr) (fun i _ => 16 - (intOf i).toNat)
    case atStart => exact ⟨[], by simp, rfl, RdTo.nil _ _, hN2, hb2⟩
    case round =>
      obtain ⟨xs, hk, rfl, HT, HN, hb⟩ := hrel
      have zb := hb.size
      have hlt := BlockIs.lt HN.out
      have hZr := hZ1.below hb
      have bwr : Below w.heap.size w wr := bw1.trans (hb.mono (by omega))
      by_cases hk2 : xs.length < 16
      · have hix := HI.out xs.length hk2
        have q1 : (xs.length : Int) < 16 := by omega
        rcases Nat.lt_or_ge xs.length L.length with hl | hl
        · obtain ⟨b, o, rfl, hcap, hbl, hx⟩ := HRD.out (by omega)
          obtain ⟨l, hll⟩ : ∃ l, L[xs.length]? = some l := ⟨_, List.getElem?_eq_getElem hl⟩
          have hc := hx xs.length (sv l) (by rw [List.getElem?_map, hll]; rfl)
          have hcr := keep hb hbl hc
          have q2 : ¬ (L.length : Int) ≤ (xs.length : Int) := by omega
          have hxl := cfWd_len xs.length
          have hrc := rdRow_cut (cfWd xs.length) l
          have hll2 := HPL.out l (List.mem_of_getElem? hll)
          have HSTP := Lib.hid (HSTOP.out xs HT.out hk2)
          have HSN := Lib.hid (fun y => RdTo.snoc (x := y) HT.out (cfWords_at _ hk2) hll)
          generalize cfWd xs.length = x at *
          have hCP := fun W => (Try.strings_CutPrefix (bs l) (bs x ++ ⟨#[32]⟩) W)
          rw [show (bs x ++ ⟨#[32]⟩ : ByteArray).data.toList = x ++ [32] from by rw [show (⟨#[32]⟩ : ByteArray) = bs [32] from rfl, bs_append, bs_data], bs_data] at hCP
          have htl := Lib.trimPrefix_le l (x ++ [32])
          generalize Lib.hasPrefix l (x ++ [32]) = ok at *
          generalize Lib.trimPrefix l (x ++ [32]) = tl at *
          have HCP : Hid (∀ W : World, Calls Try.prog 102 #[.string (bs l), .string (bs x ++ ⟨#[32]⟩)] W fun e w' => e = .returned (.tuple #[.string (bs tl), .bool ok]) ∧ W = w') := fun W => (hCP W).mono fun _ _ ⟨e, h⟩ => ⟨e, h.symm⟩
          have hDP := fun W => decParse_any (bs tl) 9223372036854775807 W (by rw [bs_size]; omega)
          rw [bs_data] at hDP
          generalize decParse tl 9223372036854775807 = pr at *
          obtain ⟨n, is⟩ := pr
          simp only at hDP hrc
          have HDP := Lib.hid hDP
          have s0 : ¬ 9223372036854775807 < (bs x).size + 1 := by rw [bs_size]; omega
          clear hCP hDP htl hxl hll2
          go_upto_region 10 with fail
          go_name_world WWx hWWx
          have hRow : BlockIs WWx wr.heap.size [.string (bs x), .int .i64 (cfNum zeroCf xs.length), .int .i64 (cfLo zeroCf xs.length), .int .i64 (cfHi xs.length)] 121 := by subst hWWx; exact BlockIs.new wr [.string (bs x), .int .i64 (cfNum zeroCf xs.length), .int .i64 (cfLo zeroCf xs.length), .int .i64 (cfHi xs.length)] _
          have hZx : BlockIs WWx w.heap.size [.int .i64 0, .int .i64 0, .int .i64 0, .int .i64 0, .int .i64 0, .int .u64 0, .int .i64 0, .int .i64 0, .int .i64 0, .int .i64 0, .int .i64 0, .int .i64 0, .int .i64 0, .int .i64 0, .int .i64 0, .int .i64 0] 70 := by subst hWWx; exact hZr.alloc' _
          have hNx : BlockIs WWx w1.heap.size (nArr xs) 119 := by subst hWWx; exact HN.out.alloc' _
          have bwx : Below w1.heap.size w1 WWx := by subst hWWx; exact hb.alloc (by omega) _
          clear hWWx
          have hcx := keep bwx hbl hc
          have hltx := bwx.size
          have e1 := fun Y => (hRow.ext' Y).cell (i := 0) rfl
          have e2 : ∀ Y, (ext WWx Y).cell? ⟨b, o + xs.length, none⟩ = some (.string (bs l)) := fun Y => (ext_cell WWx Y (p := ⟨b, o + xs.length, none⟩) (by show b < _; omega)).trans hcx
          refine wp_region_ext (by kernel_rfl) (by kernel_rfl) ?_
          repeat (go_big_quiet_step ((first | (go_at_call 102; with_reducible exact qs (HCP.out _)))))
          refine wpQuiet_nil ?_
          first | (intro _ hw'; obtain ⟨y, hw''⟩ := hw'; subst hw'') | intro y
          have hZy := hZx.ext' y
          have hNy := hNx.ext' y
          have bwy : Below w1.heap.size w1 (ext WWx y) := bwx.trans ((ext_below _ _).mono bwx.size)
          have bww : Below w.heap.size w (ext WWx y) := bw1.trans (bwy.mono (by omega))
          have zy := bwy.size
          clear e1 e2 hcx hc hcr hx
          cases ok with
          | false =>
            have HS := Lib.hid (HSTP.out (Or.inr ⟨l, hll, by rw [hrc, if_neg (by simp)]⟩))
            go_wp2_with (first | (go_at_call 103; (with_reducible refine (HDP.out _).mono ?_); rintro e w4 ⟨rfl, rfl⟩) | (refine list_store_blk rfl 70 _ _ rfl (w.heap.size) _ _ 70 hZy rfl rfl (by kernel_rfl) rfl (by simp [Value.oneCell']) w.heap.size w bww (by omega) ?_; intro wz hOz hothz hszz bwz))
            exact bodyPost_ret (results_cell3 rfl rfl (hOz.loadVar Try.underlying70 (by kernel_rfl)) rfl rfl) rfl ⟨by rw [HS.out]; rfl, bwz⟩
          | true =>
            cases is with
            | false =>
              have HS := Lib.hid (HSTP.out (Or.inr ⟨l, hll, by rw [hrc, if_neg (by simp)]⟩))
              go_wp2_with (first | (go_at_call 103; (with_reducible refine (HDP.out _).mono ?_); rintro e w4 ⟨rfl, rfl⟩) | (refine list_store_blk rfl 70 _ _ rfl (w.heap.size) _ _ 70 hZy rfl rfl (by kernel_rfl) rfl (by simp [Value.oneCell']) w.heap.size w bww (by omega) ?_; intro wz hOz hothz hszz bwz))
              exact bodyPost_ret (results_cell3 rfl rfl (hOz.loadVar Try.underlying70 (by kernel_rfl)) rfl rfl) rfl ⟨by rw [HS.out]; rfl, bwz⟩
            | true =>
              have HS := Lib.hid (HSN.out n (by rw [hrc, if_pos ⟨rfl, rfl⟩]))
              have n1 := hNy.cell (nArr_at hk2)
              have n2 := hNy.frozen
              have n3 := hNy.lt
              have HNS := Lib.hid (hNy.set xs.length (iv64 n))
              rw [nArr_set hk2 n] at HNS
              unfold iv64 at n1
              go_wp2_with (go_at_call 103; (with_reducible refine (HDP.out _).mono ?_); rintro e w4 ⟨rfl, rfl⟩)
              go_roundw
              case rel => exact ⟨xs ++ [n], by simp; omega, by simp, HS.out, HNS.out, bwy.setCell (p := ⟨w1.heap.size, xs.length, none⟩) (Nat.le_refl _) _⟩
              case measure => simp [intOf]; omega
        · have q2 : (L.length : Int) ≤ (xs.length : Int) := by omega
          have HS := Lib.hid (HSTOP.out xs HT.out hk2 (Or.inl (List.getElem?_eq_none hl)))
          go_wp2_with (refine list_store_blk rfl 70 _ _ rfl (w.heap.size) _ _ 70 (hZr.alloc' _) rfl rfl (by kernel_rfl) rfl (by simp [Value.oneCell']) w.heap.size w (by (repeat (first | with_reducible assumption | with_reducible exact Below.refl _ _ | with_reducible refine Below.setCell ?_ (by first | omega | (simp; done) | (simp; omega)) _ | with_reducible refine Below.alloc ?_ (by first | omega | (simp; done) | (simp; omega)) _ | with_reducible refine Below.drew ?_ | (with_reducible refine Below.trans ?_ (Below.mono (by with_reducible assumption) (by first | omega | (simp; done) | (simp; omega)))) | (refine Below.trans ?_ (Below.mono (by assumption) (by first | omega | (simp; done) | (simp; omega))))))) (by omega) ?_; intro wz hOz hothz hszz bwz)
          exact bodyPost_ret (results_cell3 rfl rfl (hOz.loadVar Try.underlying70 (by kernel_rfl)) rfl rfl) rfl ⟨by rw [HS.out]; rfl, bwz⟩
      · have h16 : xs.length = 16 := by omega
        have HI16 := Lib.hid (show (Try.prog.info? 119).map (·.size) = some (nArr xs).length by rw [nArr_len hk]; kernel_rfl)
        have hg := HALL.out xs HT.out h16
        unfold cfDone at hg
        have HO := Lib.hid (fun w => cfOf_any (fun i => xs.getD i 0) (rdTo_five HT.out h16) w)
        have q1 : ¬ (xs.length : Int) < 16 := by omega
        rw [← nArr_all h16] at HO
        generalize cfOf (fun i => xs.getD i 0) = c at *
        have hCR := fun w => cfRight_any c w
        rcases Nat.lt_or_ge 16 L.length with hl | hl
        · have q2 : (16 : Int) < (L.length : Int) := by omega
          rw [decide_eq_true hl, if_pos rfl] at hg
          have HG := Lib.hid hg
          clear hg hCR
          go_wp2_with (first | (refine list_load_arr rfl _ _ rfl _ _ _ HN.out rfl Try.underlying119 HI16.out ?_) | (go_at_call 104; (refine (HO.out _).mono ?_); rintro e w4 ⟨rfl, b4⟩; have z4 := b4.size; have zR := hZr.lt) | (refine list_store_blk rfl 70 _ _ rfl (w4.heap.size) _ _ 70 (BlockIs.newAt' _ _ _ (by simp)) rfl rfl (by kernel_rfl) rfl (by simp [Value.oneCell']) w.heap.size w (Below.alloc (bwr.trans (b4.mono (by omega))) (by omega) _) (by omega) ?_; intro w5 hO5 hoth5 hsz5 bw5; have z5 := bw5.size; have hZ5 := hoth5 w.heap.size _ _ (by omega) ((hZr.below b4).alloc' _)) | (refine list_load_blk rfl _ _ rfl _ _ _ (by first | exact hO5 | exact hO5.below b6) rfl Try.underlying70 (by kernel_rfl) ?_) | (go_at_call 49; (with_reducible refine (HCR.out _).mono ?_); rintro e w6 ⟨rfl, b6⟩; have z6 := b6.size) | (refine list_store_blk rfl 70 _ _ rfl (w.heap.size) _ _ 70 (by first | exact hZ5 | exact hZ5.below b6) rfl rfl (by kernel_rfl) rfl (by simp [Value.oneCell']) w.heap.size w (by first | exact bw5 | exact bw5.trans (b6.mono (by omega))) (by omega) ?_; intro wz hOz hothz hszz bwz))
          exact bodyPost_ret (results_cell3 rfl rfl (hOz.loadVar Try.underlying70 (by kernel_rfl)) rfl rfl) rfl ⟨by rw [HG.out]; rfl, bwz⟩
        · have q2 : ¬ (16 : Int) < (L.length : Int) := by omega
          rw [decide_eq_false (by omega), if_neg (by simp)] at hg
          cases hr : cfRight c with
          | false =>
            rw [hr, if_neg (by simp)] at hg
            rw [hr] at hCR
            have HG := Lib.hid hg
            have HCR := Lib.hid hCR
            clear hg hCR hr
            go_wp2_with (first | (refine list_load_arr rfl _ _ rfl _ _ _ HN.out rfl Try.underlying119 HI16.out ?_) | (go_at_call 104; (refine (HO.out _).mono ?_); rintro e w4 ⟨rfl, b4⟩; have z4 := b4.size; have zR := hZr.lt) | (refine list_store_blk rfl 70 _ _ rfl (w4.heap.size) _ _ 70 (BlockIs.newAt' _ _ _ (by simp)) rfl rfl (by kernel_rfl) rfl (by simp [Value.oneCell']) w.heap.size w (Below.alloc (bwr.trans (b4.mono (by omega))) (by omega) _) (by omega) ?_; intro w5 hO5 hoth5 hsz5 bw5; have z5 := bw5.size; have hZ5 := hoth5 w.heap.size _ _ (by omega) ((hZr.below b4).alloc' _)) | (refine list_load_blk rfl _ _ rfl _ _ _ (by first | exact hO5 | exact hO5.below b6) rfl Try.underlying70 (by kernel_rfl) ?_) | (go_at_call 49; (with_reducible refine (HCR.out _).mono ?_); rintro e w6 ⟨rfl, b6⟩; have z6 := b6.size) | (refine list_store_blk rfl 70 _ _ rfl (w.heap.size) _ _ 70 (by first | exact hZ5 | exact hZ5.below b6) rfl rfl (by kernel_rfl) rfl (by simp [Value.oneCell']) w.heap.size w (by first | exact bw5 | exact bw5.trans (b6.mono (by omega))) (by omega) ?_; intro wz hOz hothz hszz bwz))
            exact bodyPost_ret (results_cell3 rfl rfl (hOz.loadVar Try.underlying70 (by kernel_rfl)) rfl rfl) rfl ⟨by rw [HG.out]; rfl, bwz⟩
          | true =>
            rw [hr, if_pos rfl] at hg
            rw [hr] at hCR
            have HG := Lib.hid hg
            have HCR := Lib.hid hCR
            clear hg hCR hr
            go_wp2_with (first | (refine list_load_arr rfl _ _ rfl _ _ _ HN.out rfl Try.underlying119 HI16.out ?_) | (go_at_call 104; (refine (HO.out _).mono ?_); rintro e w4 ⟨rfl, b4⟩; have z4 := b4.size; have zR := hZr.lt) | (refine list_store_blk rfl 70 _ _ rfl (w4.heap.size) _ _ 70 (BlockIs.newAt' _ _ _ (by simp)) rfl rfl (by kernel_rfl) rfl (by simp [Value.oneCell']) w.heap.size w (Below.alloc (bwr.trans (b4.mono (by omega))) (by omega) _) (by omega) ?_; intro w5 hO5 hoth5 hsz5 bw5; have z5 := bw5.size; have hZ5 := hoth5 w.heap.size _ _ (by omega) ((hZr.below b4).alloc' _)) | (refine list_load_blk rfl _ _ rfl _ _ _ (hO5.below b6) rfl Try.underlying70 (by kernel_rfl) ?_) | (refine list_load_blk rfl _ _ rfl _ _ _ hO5 rfl Try.underlying70 (by kernel_rfl) ?_) | (go_at_call 49; (with_reducible refine (HCR.out _).mono ?_); rintro e w6 ⟨rfl, b6⟩; have z6 := b6.size) | (refine list_store_blk rfl 70 _ _ rfl (w.heap.size) _ _ 70 (hZ5.below b6) rfl rfl (by kernel_rfl) rfl (by simp [Value.oneCell']) w.heap.size w (bw5.trans (b6.mono (by omega))) (by omega) ?_; intro wz hOz hothz hszz bwz))
            exact bodyPost_ret (results_cell3 rfl rfl (hOz.loadVar Try.underlying70 (by kernel_rfl)) rfl rfl) rfl ⟨by rw [HG.out]; rfl, bwz⟩
end Go.Proofs.Ytnohkfbapibmdaa
