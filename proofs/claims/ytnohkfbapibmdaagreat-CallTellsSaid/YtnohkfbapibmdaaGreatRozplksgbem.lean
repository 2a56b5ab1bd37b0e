/- Texts put together: CallP. No condition. -/
import Derived.Test.YtnohkfbapibmdaaGreatRnnjrvjotlb
import Derived.Test.YtnohkfbapibmdaaGreatRmlfvpeuuqj
namespace Go.Proofs.YtnohkfbapibmdaaGreat
open Go.RowKit
set_option linter.unusedSimpArgs false
set_option linter.unusedVariables false

def GivesCl (w : World) (r : Cl × Bool) (e : Ending) (w' : World) : Prop := e = .returned (.tuple #[.agg #[.int .i64 r.1.kind, .bool r.1.en.ad.v6, .int .u64 r.1.en.ad.hi, .int .u64 r.1.en.ad.lo, .int .i64 r.1.en.port, .bool r.1.nt.ad.v6, .int .u64 r.1.nt.ad.hi, .int .u64 r.1.nt.ad.lo, .int .i64 r.1.nt.bits, .int .i64 r.1.now, .int .i64 r.1.num, .bool r.1.good], .bool r.2]) ∧ Below w.heap.size w w'
theorem gives_at {f : FuncId} {args : Array Value} {W : World} {l : List (List UInt8)} (hne : l ≠ []) (h : Calls Tryz.prog f args W (GivesStrs W l)) :
    Calls Tryz.prog f args W fun e w' => ∃ (g cap : Nat), e = .returned (.slice (some ⟨g, 0, none⟩) l.length cap) ∧ l.length ≤ cap ∧ g < w'.heap.size ∧ (∀ j x, l[j]? = some x → w'.cell? ⟨g, j, none⟩ = some (.string (bs x))) ∧ Below W.heap.size W w' :=
  (gives_row hne h).mono fun _ _ ⟨g, cap, h1, _, h3, h4, h5, h6⟩ => ⟨g, cap, h3, h1, h4, fun j x hj => by
    obtain ⟨hl, rfl⟩ := List.getElem?_eq_some_iff.1 hj
    exact h5 j hl, h6⟩
theorem go_at (u : Cl) {L : List Nat} {T : List (List UInt8)} {k p : Nat} {s : List UInt8} (hp : L[k]? = some p) (hs : T[k]? = some s) : clGo u (L.drop k) (T.drop k) = if (clRead u p s).2 = true then clGo (clRead u p s).1 (L.drop (k + 1)) (T.drop (k + 1)) else (zeroCl 0, false) := by
  obtain ⟨hk, rfl⟩ := List.getElem?_eq_some_iff.1 hp
  obtain ⟨hk2, rfl⟩ := List.getElem?_eq_some_iff.1 hs
  rw [List.drop_eq_getElem_cons hk, List.drop_eq_getElem_cons hk2, clGo]
theorem go_done (u : Cl) (L : List Nat) (T : List (List UInt8)) : clGo u (L.drop L.length) T = (u, true) := by rw [List.drop_length]; cases T <;> rfl
theorem head_at {S : List (List UInt8)} (h : S ≠ []) : S[0]? = some (S.headD []) := by cases S with | nil => exact absurd rfl h | cons a l => rfl
theorem tail_at (S : List (List UInt8)) (k : Nat) : S.tail[k]? = S[1 + k]? := by rw [List.getElem?_tail, Nat.add_comm]
set_option maxRecDepth 100000 in
set_option maxHeartbeats 8000000 in
theorem clParse_any (s : ByteArray) (w : World) (hs : s.size ≤ 4000000000) (hc : Cpu w) : Calls Tryz.prog 5 #[.string s] w (GivesCl w (clParse s.data.toList)) := by
  have HC := Lib.hid hc; clear hc
  unfold GivesCl clParse clKind
  have hne := splitL_ne 32 s.data.toList
  have HSP := Lib.hid (fun w => gives_at hne (split_any s 32 w (by omega)))
  have hpl := fun x (hx : x ∈ splitL 32 s.data.toList) => splitL_part_len 32 s.data.toList x hx
  rw [len_data] at hpl
  generalize splitL 32 s.data.toList = S at *
  have hS0 := head_at hne
  generalize S.headD [] = hd at *
  have HK := Lib.hid (fun w => codeKind_any hd w)
  have HS := Lib.hid hS0
  have hnl : 0 < S.length := List.length_pos_iff.2 hne
  have HPL := Lib.hid (fun x hx => Nat.le_trans (hpl x hx) hs)
  have HR0 : Hid (BlockIs (w.alloc (.cells #[.int .i64 0, .bool false, .int .u64 0, .int .u64 0, .int .i64 0, .bool false, .int .u64 0, .int .u64 0, .int .i64 0, .int .i64 0, .int .i64 0, .bool false] 30)) w.heap.size [.int .i64 0, .bool false, .int .u64 0, .int .u64 0, .int .i64 0, .bool false, .int .u64 0, .int .u64 0, .int .i64 0, .int .i64 0, .int .i64 0, .bool false] 30) := BlockIs.new w _ _
  clear hne hpl hs
  by_cases hk0 : kindOf hd = 0
  · rw [if_pos (Or.inl hk0)]
    rw [hk0] at HK
    have HP := Lib.hid (fun w => parts_any33 0 w)
    unfold zeroCl
    simp only [show ((0 : Nat) : Int) = 0 from rfl]
    clear hk0
    generalize S.length = n at *
    go_enter Tryz.func5, Tryz.ntmps5
    go_wp2_with (first | (go_at_call 13; refine (HSP.out _).mono ?_; rintro e w1 ⟨g, cap, rfl, hcap, hg, hcell, b1⟩; obtain ⟨c1, f1⟩ := bcell b1; have z1 := b1.size; (try simp at z1); have l1 : w.heap.size < w1.heap.size := (by omega); have h0 := hcell 0 _ hS0; have HCELL := Lib.hid hcell; clear c1 f1 hcell) | (go_at_call 14; (with_reducible refine (HK.out _).mono ?_); rintro e w2 ⟨rfl, b2⟩; obtain ⟨c2, f2⟩ := bcell b2; have z2 := b2.size; (try simp at z2); have d2a := fun o => c2 (g) o (by first | omega | (simp; done) | (simp; omega)); clear c2 f2) | (go_at_call 15; (with_reducible refine (HP.out _).mono ?_); rintro e w3 ⟨a, cc, rfl, hpa, b3⟩; have HPA := Lib.hid hpa; clear hpa; obtain ⟨c3, f3⟩ := bcell b3; have z3 := b3.size; (try simp at z3); have d3 := fun o => c3 (w2.heap.size) o (by first | omega | (simp; done) | (simp; omega)); have hR3 := (((HR0.out.below b1).below b2).alloc' _).below b3; have r0 := hR3.cell (i := 0) rfl; have r1 := hR3.cell (i := 1) rfl; have r2 := hR3.cell (i := 2) rfl; have r3 := hR3.cell (i := 3) rfl; have r4 := hR3.cell (i := 4) rfl; have r5 := hR3.cell (i := 5) rfl; have r6 := hR3.cell (i := 6) rfl; have r7 := hR3.cell (i := 7) rfl; have r8 := hR3.cell (i := 8) rfl; have r9 := hR3.cell (i := 9) rfl; have r10 := hR3.cell (i := 10) rfl; have r11 := hR3.cell (i := 11) rfl; have rf := hR3.frozen; have rl := hR3.lt; have HR3 := Lib.hid hR3; clear c3 f3 hR3))
    refine bodyPost_named fun W9 h9 => ?_
    have e90 : W9.cell? ⟨w.heap.size, 0, none⟩ = some (.int .i64 0) := by subst h9; (first | (simp [go_sem, *]; done) | (simp (disch := first | omega | (simp; omega) | (simp [go_sem, *]; done)) [go_sem, World.cell?_setCell_far, World.cell?_alloc_past, *]; done))
    have e91 : W9.cell? ⟨w.heap.size, 1, none⟩ = some (.bool false) := by subst h9; (first | (simp [go_sem, *]; done) | (simp (disch := first | omega | (simp; omega) | (simp [go_sem, *]; done)) [go_sem, World.cell?_setCell_far, World.cell?_alloc_past, *]; done))
    have e92 : W9.cell? ⟨w.heap.size, 2, none⟩ = some (.int .u64 0) := by subst h9; (first | (simp [go_sem, *]; done) | (simp (disch := first | omega | (simp; omega) | (simp [go_sem, *]; done)) [go_sem, World.cell?_setCell_far, World.cell?_alloc_past, *]; done))
    have e93 : W9.cell? ⟨w.heap.size, 3, none⟩ = some (.int .u64 0) := by subst h9; (first | (simp [go_sem, *]; done) | (simp (disch := first | omega | (simp; omega) | (simp [go_sem, *]; done)) [go_sem, World.cell?_setCell_far, World.cell?_alloc_past, *]; done))
    have e94 : W9.cell? ⟨w.heap.size, 4, none⟩ = some (.int .i64 0) := by subst h9; (first | (simp [go_sem, *]; done) | (simp (disch := first | omega | (simp; omega) | (simp [go_sem, *]; done)) [go_sem, World.cell?_setCell_far, World.cell?_alloc_past, *]; done))
    have e95 : W9.cell? ⟨w.heap.size, 5, none⟩ = some (.bool false) := by subst h9; (first | (simp [go_sem, *]; done) | (simp (disch := first | omega | (simp; omega) | (simp [go_sem, *]; done)) [go_sem, World.cell?_setCell_far, World.cell?_alloc_past, *]; done))
    have e96 : W9.cell? ⟨w.heap.size, 6, none⟩ = some (.int .u64 0) := by subst h9; (first | (simp [go_sem, *]; done) | (simp (disch := first | omega | (simp; omega) | (simp [go_sem, *]; done)) [go_sem, World.cell?_setCell_far, World.cell?_alloc_past, *]; done))
    have e97 : W9.cell? ⟨w.heap.size, 7, none⟩ = some (.int .u64 0) := by subst h9; (first | (simp [go_sem, *]; done) | (simp (disch := first | omega | (simp; omega) | (simp [go_sem, *]; done)) [go_sem, World.cell?_setCell_far, World.cell?_alloc_past, *]; done))
    have e98 : W9.cell? ⟨w.heap.size, 8, none⟩ = some (.int .i64 0) := by subst h9; (first | (simp [go_sem, *]; done) | (simp (disch := first | omega | (simp; omega) | (simp [go_sem, *]; done)) [go_sem, World.cell?_setCell_far, World.cell?_alloc_past, *]; done))
    have e99 : W9.cell? ⟨w.heap.size, 9, none⟩ = some (.int .i64 0) := by subst h9; (first | (simp [go_sem, *]; done) | (simp (disch := first | omega | (simp; omega) | (simp [go_sem, *]; done)) [go_sem, World.cell?_setCell_far, World.cell?_alloc_past, *]; done))
    have e910 : W9.cell? ⟨w.heap.size, 10, none⟩ = some (.int .i64 0) := by subst h9; (first | (simp [go_sem, *]; done) | (simp (disch := first | omega | (simp; omega) | (simp [go_sem, *]; done)) [go_sem, World.cell?_setCell_far, World.cell?_alloc_past, *]; done))
    have e911 : W9.cell? ⟨w.heap.size, 11, none⟩ = some (.bool false) := by subst h9; (first | (simp [go_sem, *]; done) | (simp (disch := first | omega | (simp; omega) | (simp [go_sem, *]; done)) [go_sem, World.cell?_setCell_far, World.cell?_alloc_past, *]; done))
    have b9 : Below w.heap.size w W9 := by subst h9; (repeat (first | with_reducible assumption | with_reducible exact Below.refl _ _ | with_reducible refine Below.setCell ?_ (by first | omega | (simp; done) | (simp; omega)) _ | with_reducible refine Below.alloc ?_ (by first | omega | (simp; done) | (simp; omega)) _ | with_reducible refine Below.drew ?_ | (with_reducible refine Below.trans ?_ (Below.mono (by with_reducible assumption) (by first | omega | (simp; done) | (simp; omega)))) | (refine Below.trans ?_ (Below.mono (by assumption) (by first | omega | (simp; done) | (simp; omega))))))
    clear h9
    refine bodyPost_ret (v := .tuple #[.agg #[.int .i64 0, .bool false, .int .u64 0, .int .u64 0, .int .i64 0, .bool false, .int .u64 0, .int .u64 0, .int .i64 0, .int .i64 0, .int .i64 0, .bool false], .bool false]) (by simp [results, Tryz.results5, go_sem, e90, e91, e92, e93, e94, e95, e96, e97, e98, e99, e910, e911]) rfl ⟨?_, b9⟩
    rfl
  · have hk5 : Hid (∀ p ∈ clParts (kindOf hd), p ≤ 5) := parts_le5 _
    have HP := Lib.hid (fun w => parts_any33 (kindOf hd) w)
    have hL4 : (clParts (kindOf hd)).length ≤ 4 := by unfold clParts; repeat' split
                                                      all_goals decide
    have hkq : (kindOf hd == 0) = false := beq_eq_false_iff_ne.2 hk0
    by_cases hlen : S.length = 1 + (clParts (kindOf hd)).length
    · rw [if_neg (fun h => h.elim hk0 (fun h => h hlen))]
      obtain ⟨rr, hrr⟩ : ∃ r, clGo (zeroCl (kindOf hd)) (clParts (kindOf hd)) S.tail = r := ⟨_, rfl⟩
      rw [hrr]
      have HRR := Lib.hid hrr; clear hrr
      generalize clParts (kindOf hd) = L at *
      generalize kindOf hd = K at *
      have HLEN := Lib.hid hlen
      rw [hlen] at HSP
      clear hlen hnl
      go_enter Tryz.func5, Tryz.ntmps5
      go_wp2_with (first | (go_at_call 13; refine (HSP.out _).mono ?_; rintro e w1 ⟨g, cap, rfl, hcap, hg, hcell, b1⟩; obtain ⟨c1, f1⟩ := bcell b1; have z1 := b1.size; (try simp at z1); have l1 : w.heap.size < w1.heap.size := (by omega); have h0 := hcell 0 _ hS0; have HCELL := Lib.hid hcell; clear c1 f1 hcell) | (go_at_call 14; (with_reducible refine (HK.out _).mono ?_); rintro e w2 ⟨rfl, b2⟩; obtain ⟨c2, f2⟩ := bcell b2; have z2 := b2.size; (try simp at z2); have d2a := fun o => c2 (g) o (by first | omega | (simp; done) | (simp; omega)); clear c2 f2) | (go_at_call 15; (with_reducible refine (HP.out _).mono ?_); rintro e w3 ⟨a, cc, rfl, hpa, b3⟩; have HPA := Lib.hid hpa; clear hpa; obtain ⟨c3, f3⟩ := bcell b3; have z3 := b3.size; (try simp at z3); have d3 := fun o => c3 (w2.heap.size) o (by first | omega | (simp; done) | (simp; omega)); have hR3 := (((HR0.out.below b1).below b2).alloc' _).below b3; have r0 := hR3.cell (i := 0) rfl; have r1 := hR3.cell (i := 1) rfl; have r2 := hR3.cell (i := 2) rfl; have r3 := hR3.cell (i := 3) rfl; have r4 := hR3.cell (i := 4) rfl; have r5 := hR3.cell (i := 5) rfl; have r6 := hR3.cell (i := 6) rfl; have r7 := hR3.cell (i := 7) rfl; have r8 := hR3.cell (i := 8) rfl; have r9 := hR3.cell (i := 9) rfl; have r10 := hR3.cell (i := 10) rfl; have r11 := hR3.cell (i := 11) rfl; have rf := hR3.frozen; have rl := hR3.lt; have HR3 := Lib.hid hR3; clear c3 f3 hR3))
      go_name_world WWx hWWx
      have bwx : Hid (Below w.heap.size w WWx) := by subst hWWx; unfold Hid; (repeat (first | with_reducible assumption | with_reducible exact Below.refl _ _ | with_reducible refine Below.setCell ?_ (by first | omega | (simp; done) | (simp; omega)) _ | with_reducible refine Below.alloc ?_ (by first | omega | (simp; done) | (simp; omega)) _ | with_reducible refine Below.drew ?_ | (with_reducible refine Below.trans ?_ (Below.mono (by with_reducible assumption) (by first | omega | (simp; done) | (simp; omega)))) | (refine Below.trans ?_ (Below.mono (by assumption) (by first | omega | (simp; done) | (simp; omega))))))
      have bel13 : Below w1.heap.size w1 WWx := by subst hWWx; (repeat (first | with_reducible assumption | with_reducible exact Below.refl _ _ | with_reducible refine Below.setCell ?_ (by first | omega | (simp; done) | (simp; omega)) _ | with_reducible refine Below.alloc ?_ (by first | omega | (simp; done) | (simp; omega)) _ | with_reducible refine Below.drew ?_ | (with_reducible refine Below.trans ?_ (Below.mono (by with_reducible assumption) (by first | omega | (simp; done) | (simp; omega)))) | (refine Below.trans ?_ (Below.mono (by assumption) (by first | omega | (simp; done) | (simp; omega))))))
      have hR : Hid (BlockIs WWx w.heap.size [.int .i64 0, .bool false, .int .u64 0, .int .u64 0, .int .i64 0, .bool false, .int .u64 0, .int .u64 0, .int .i64 0, .int .i64 0, .int .i64 0, .bool false] 30) := by subst hWWx; exact HR3.out
      have hO : Hid (BlockIs WWx w2.heap.size (clV (zeroCl K)) 30) := by subst hWWx; exact (BlockIs.new w2 _ _).below b3
      have hQ : Hid (PartsAt WWx a cc L) := by subst hWWx; exact HPA.out
      have hC : Hid (∀ j x, S[j]? = some x → WWx.cell? ⟨g, j, none⟩ = some (.string (bs x))) := fun j x hj => (bel13.cell (p := ⟨g, j, none⟩) hg).trans (HCELL.out j x hj)
      have zO : w2.heap.size < WWx.heap.size := by subst hWWx; omega
      have lgO : g < w2.heap.size := by omega
      have l0O : w.heap.size < w2.heap.size := by omega
      clear hWWx HR3 HPA HCELL bel13 b1 b2 b3 d3 d2a h0 r0 r1 r2 r3 r4 r5 r6 r7 r8 r9 r10 r11 rf rl HR0
      generalize w2.heap.size = O at *
      go_loopw [7, 8, 33] (fun _ _ i wr => ∃ (k : Nat) (u : Cl), k ≤ L.length ∧ i = .int .i64 k ∧ Hid (BlockIs wr O (clV u) 30) ∧ Hid (Below O WWx wr) ∧ Hid (PartsAt wr a cc L) ∧ Hid (clGo (zeroCl K) L S.tail = clGo u (L.drop k) (S.tail.drop k))) (fun _ _ i _ => L.length - (intOf i).toNat)
      case atStart => exact ⟨0, zeroCl K, Nat.zero_le _, rfl, hO.out, Below.refl _ _, hQ.out, rfl⟩
      case round =>
        clear hO hQ
        obtain ⟨k, u, hk, rfl, HO, HB, HQ, HGO⟩ := hrel
        have zr := HB.out.size
        have bww : Hid (Below w.heap.size w wr) := bwx.out.trans (HB.out.mono (Nat.le_of_lt l0O))
        have HRr := Lib.hid (blk_belowC hR.out HB.out l0O)
        by_cases hlt : k < L.length
        · obtain ⟨p, hp⟩ : ∃ p, L[k]? = some p := ⟨_, List.getElem?_eq_getElem hlt⟩
          obtain ⟨t, ht⟩ : ∃ t, S[1 + k]? = some t := ⟨_, List.getElem?_eq_getElem (by have := HLEN.out; omega)⟩
          obtain ⟨B, rfl, hcc, hK⟩ := HQ.out (by omega)
          have x0 := part_cell hK hp
          have hKl := hK.lt
          have s0 := (HB.out.cell (p := ⟨g, 1 + k, none⟩) lgO).trans (hC.out _ _ ht)
          have hX := read_any u p (hk5.out p (List.mem_of_getElem? hp)) t O wr (HPL.out t (List.mem_of_getElem? ht)) (HC.out.below bww.out) HO.out
          have hBO : B ≠ O := fun e => by
            subst e
            have h1 := hK; have h2 := HO.out
            unfold BlockIs at h1 h2
            rw [h2] at h1
            injection h1 with h1
            injection h1 with _ h1
            exact absurd h1 (by decide)
          have hgo := go_at u (L := L) (T := S.tail) hp ((tail_at S k).trans ht)
          unfold ReadPost at hX
          obtain ⟨r2, hr2⟩ : ∃ r, clRead u p t = r := ⟨_, rfl⟩
          rw [hr2] at hX hgo
          obtain ⟨u2, d⟩ := r2
          simp only at hX hgo
          have HKK := Lib.hid hK
          clear hp ht hK hr2
          cases d with
          | false =>
            rw [if_neg (by simp)] at hgo
            obtain rfl : rr = (zeroCl 0, false) := by rw [← HRR.out, HGO.out, hgo]
            have HX := Lib.hid hX
            clear hX hgo
            unfold zeroCl
            try simp only [show ((0 : Nat) : Int) = 0 from rfl]
            go_wp2_with (go_at_call 16; (with_reducible refine HX.out.mono ?_); rintro e w4 ⟨rfl, hO4, hg4⟩; have HO4 := Lib.hid hO4; have HG4 := Lib.hid hg4; have z4 := hg4.size; have hR4 := blk_grownC HRr.out hg4 (fun e => (Nat.ne_of_lt l0O) (Option.some.inj e).symm); have r0 := hR4.cell (i := 0) rfl; have r1 := hR4.cell (i := 1) rfl; have r2 := hR4.cell (i := 2) rfl; have r3 := hR4.cell (i := 3) rfl; have r4 := hR4.cell (i := 4) rfl; have r5 := hR4.cell (i := 5) rfl; have r6 := hR4.cell (i := 6) rfl; have r7 := hR4.cell (i := 7) rfl; have r8 := hR4.cell (i := 8) rfl; have r9 := hR4.cell (i := 9) rfl; have r10 := hR4.cell (i := 10) rfl; have r11 := hR4.cell (i := 11) rfl; have rf := hR4.frozen; have rl := hR4.lt; clear hO4 hg4 hR4)
            refine bodyPost_named fun W9 h9 => ?_
            have hR9 : BlockIs W9 w.heap.size [.int .i64 0, .bool false, .int .u64 0, .int .u64 0, .int .i64 0, .bool false, .int .u64 0, .int .u64 0, .int .i64 0, .int .i64 0, .int .i64 0, .bool false] 30 := by subst h9; exact (((((((((((((blk_grownC HRr.out HG4.out (fun e => (Nat.ne_of_lt l0O) (Option.some.inj e).symm)).set 0 _).set 1 _).set 2 _).set 3 _).set 4 _).set 5 _).set 6 _).set 7 _).set 8 _).set 9 _).set 10 _).set 11 _)
            have b9 : Below w.heap.size w W9 := by
              subst h9
              have b4 := Below.grown bww.out HG4.out (by omega) (fun q hq => by injection hq with hq; omega)
              (repeat (first | with_reducible assumption | with_reducible exact Below.refl _ _ | with_reducible refine Below.setCell ?_ (by first | omega | (simp; done) | (simp; omega)) _ | with_reducible refine Below.alloc ?_ (by first | omega | (simp; done) | (simp; omega)) _ | with_reducible refine Below.drew ?_ | (with_reducible refine Below.trans ?_ (Below.mono (by with_reducible assumption) (by first | omega | (simp; done) | (simp; omega)))) | (refine Below.trans ?_ (Below.mono (by assumption) (by first | omega | (simp; done) | (simp; omega))))))
            clear h9
            have e90 := hR9.cell (i := 0) rfl; have e91 := hR9.cell (i := 1) rfl; have e92 := hR9.cell (i := 2) rfl; have e93 := hR9.cell (i := 3) rfl; have e94 := hR9.cell (i := 4) rfl; have e95 := hR9.cell (i := 5) rfl; have e96 := hR9.cell (i := 6) rfl; have e97 := hR9.cell (i := 7) rfl; have e98 := hR9.cell (i := 8) rfl; have e99 := hR9.cell (i := 9) rfl; have e910 := hR9.cell (i := 10) rfl; have e911 := hR9.cell (i := 11) rfl
            exact bodyPost_ret (v := .tuple #[.agg #[.int .i64 0, .bool false, .int .u64 0, .int .u64 0, .int .i64 0, .bool false, .int .u64 0, .int .u64 0, .int .i64 0, .int .i64 0, .int .i64 0, .bool false], .bool false]) (by simp [results, Tryz.results5, go_sem, e90, e91, e92, e93, e94, e95, e96, e97, e98, e99, e910, e911]) rfl ⟨rfl, b9⟩
          | true =>
            rw [if_pos rfl] at hgo
            have HX := Lib.hid hX; have HGO2 := Lib.hid (HGO.out.trans hgo)
            clear hX hgo HGO
            go_wp2_with (go_at_call 16; (with_reducible refine HX.out.mono ?_); rintro e w4 ⟨rfl, hO4, hg4⟩; have HO4 := Lib.hid hO4; have HG4 := Lib.hid hg4; have z4 := hg4.size; have hR4 := blk_grownC HRr.out hg4 (fun e => (Nat.ne_of_lt l0O) (Option.some.inj e).symm); have r0 := hR4.cell (i := 0) rfl; have r1 := hR4.cell (i := 1) rfl; have r2 := hR4.cell (i := 2) rfl; have r3 := hR4.cell (i := 3) rfl; have r4 := hR4.cell (i := 4) rfl; have r5 := hR4.cell (i := 5) rfl; have r6 := hR4.cell (i := 6) rfl; have r7 := hR4.cell (i := 7) rfl; have r8 := hR4.cell (i := 8) rfl; have r9 := hR4.cell (i := 9) rfl; have r10 := hR4.cell (i := 10) rfl; have r11 := hR4.cell (i := 11) rfl; have rf := hR4.frozen; have rl := hR4.lt; clear hO4 hg4 hR4)
            go_roundw
            case rel =>
              exact ⟨k + 1, u2, by omega, by go_num, HO4.out, Below.grown HB.out HG4.out (by omega) (fun q hq => by injection hq with hq; omega), fun _ => ⟨B, rfl, hcc, blk_grownC HKK.out HG4.out (fun e => hBO (Option.some.inj e).symm)⟩, HGO2.out⟩
            case measure => simp [intOf]; omega
        · obtain rfl : k = L.length := by omega
          obtain rfl : rr = (u, true) := by rw [← HRR.out, HGO.out, go_done]
          have hOr := HO.out
          unfold clV at hOr
          have o0 := hOr.cell (i := 0) rfl
          have o1 := hOr.cell (i := 1) rfl
          have o2 := hOr.cell (i := 2) rfl
          have o3 := hOr.cell (i := 3) rfl
          have o4 := hOr.cell (i := 4) rfl
          have o5 := hOr.cell (i := 5) rfl
          have o6 := hOr.cell (i := 6) rfl
          have o7 := hOr.cell (i := 7) rfl
          have o8 := hOr.cell (i := 8) rfl
          have o9 := hOr.cell (i := 9) rfl
          have o10 := hOr.cell (i := 10) rfl
          have o11 := hOr.cell (i := 11) rfl
          have of := hOr.frozen
          have ol := hOr.lt
          have hRr := HRr.out
          have r0 := hRr.cell (i := 0) rfl
          have r1 := hRr.cell (i := 1) rfl
          have r2 := hRr.cell (i := 2) rfl
          have r3 := hRr.cell (i := 3) rfl
          have r4 := hRr.cell (i := 4) rfl
          have r5 := hRr.cell (i := 5) rfl
          have r6 := hRr.cell (i := 6) rfl
          have r7 := hRr.cell (i := 7) rfl
          have r8 := hRr.cell (i := 8) rfl
          have r9 := hRr.cell (i := 9) rfl
          have r10 := hRr.cell (i := 10) rfl
          have r11 := hRr.cell (i := 11) rfl
          have rf := hRr.frozen
          have rl := hRr.lt
          have bwr := bww.out
          clear hOr hRr
          go_wp2_with fail
          refine bodyPost_named fun W9 h9 => ?_
          have e90 : W9.cell? ⟨w.heap.size, 0, none⟩ = some (.int .i64 u.kind) := by subst h9; (first | (simp [go_sem, *]; done) | (simp (disch := first | omega | (simp; omega) | (simp [go_sem, *]; done)) [go_sem, World.cell?_setCell_far, World.cell?_alloc_past, *]; done))
          have e91 : W9.cell? ⟨w.heap.size, 1, none⟩ = some (.bool u.en.ad.v6) := by subst h9; (first | (simp [go_sem, *]; done) | (simp (disch := first | omega | (simp; omega) | (simp [go_sem, *]; done)) [go_sem, World.cell?_setCell_far, World.cell?_alloc_past, *]; done))
          have e92 : W9.cell? ⟨w.heap.size, 2, none⟩ = some (.int .u64 u.en.ad.hi) := by subst h9; (first | (simp [go_sem, *]; done) | (simp (disch := first | omega | (simp; omega) | (simp [go_sem, *]; done)) [go_sem, World.cell?_setCell_far, World.cell?_alloc_past, *]; done))
          have e93 : W9.cell? ⟨w.heap.size, 3, none⟩ = some (.int .u64 u.en.ad.lo) := by subst h9; (first | (simp [go_sem, *]; done) | (simp (disch := first | omega | (simp; omega) | (simp [go_sem, *]; done)) [go_sem, World.cell?_setCell_far, World.cell?_alloc_past, *]; done))
          have e94 : W9.cell? ⟨w.heap.size, 4, none⟩ = some (.int .i64 u.en.port) := by subst h9; (first | (simp [go_sem, *]; done) | (simp (disch := first | omega | (simp; omega) | (simp [go_sem, *]; done)) [go_sem, World.cell?_setCell_far, World.cell?_alloc_past, *]; done))
          have e95 : W9.cell? ⟨w.heap.size, 5, none⟩ = some (.bool u.nt.ad.v6) := by subst h9; (first | (simp [go_sem, *]; done) | (simp (disch := first | omega | (simp; omega) | (simp [go_sem, *]; done)) [go_sem, World.cell?_setCell_far, World.cell?_alloc_past, *]; done))
          have e96 : W9.cell? ⟨w.heap.size, 6, none⟩ = some (.int .u64 u.nt.ad.hi) := by subst h9; (first | (simp [go_sem, *]; done) | (simp (disch := first | omega | (simp; omega) | (simp [go_sem, *]; done)) [go_sem, World.cell?_setCell_far, World.cell?_alloc_past, *]; done))
          have e97 : W9.cell? ⟨w.heap.size, 7, none⟩ = some (.int .u64 u.nt.ad.lo) := by subst h9; (first | (simp [go_sem, *]; done) | (simp (disch := first | omega | (simp; omega) | (simp [go_sem, *]; done)) [go_sem, World.cell?_setCell_far, World.cell?_alloc_past, *]; done))
          have e98 : W9.cell? ⟨w.heap.size, 8, none⟩ = some (.int .i64 u.nt.bits) := by subst h9; (first | (simp [go_sem, *]; done) | (simp (disch := first | omega | (simp; omega) | (simp [go_sem, *]; done)) [go_sem, World.cell?_setCell_far, World.cell?_alloc_past, *]; done))
          have e99 : W9.cell? ⟨w.heap.size, 9, none⟩ = some (.int .i64 u.now) := by subst h9; (first | (simp [go_sem, *]; done) | (simp (disch := first | omega | (simp; omega) | (simp [go_sem, *]; done)) [go_sem, World.cell?_setCell_far, World.cell?_alloc_past, *]; done))
          have e910 : W9.cell? ⟨w.heap.size, 10, none⟩ = some (.int .i64 u.num) := by subst h9; (first | (simp [go_sem, *]; done) | (simp (disch := first | omega | (simp; omega) | (simp [go_sem, *]; done)) [go_sem, World.cell?_setCell_far, World.cell?_alloc_past, *]; done))
          have e911 : W9.cell? ⟨w.heap.size, 11, none⟩ = some (.bool u.good) := by subst h9; (first | (simp [go_sem, *]; done) | (simp (disch := first | omega | (simp; omega) | (simp [go_sem, *]; done)) [go_sem, World.cell?_setCell_far, World.cell?_alloc_past, *]; done))
          have b9 : Below w.heap.size w W9 := by subst h9; (repeat (first | with_reducible assumption | with_reducible exact Below.refl _ _ | with_reducible refine Below.setCell ?_ (by first | omega | (simp; done) | (simp; omega)) _ | with_reducible refine Below.alloc ?_ (by first | omega | (simp; done) | (simp; omega)) _ | with_reducible refine Below.drew ?_ | (with_reducible refine Below.trans ?_ (Below.mono (by with_reducible assumption) (by first | omega | (simp; done) | (simp; omega)))) | (refine Below.trans ?_ (Below.mono (by assumption) (by first | omega | (simp; done) | (simp; omega))))))
          clear h9
          refine bodyPost_ret (v := .tuple #[.agg #[.int .i64 u.kind, .bool u.en.ad.v6, .int .u64 u.en.ad.hi, .int .u64 u.en.ad.lo, .int .i64 u.en.port, .bool u.nt.ad.v6, .int .u64 u.nt.ad.hi, .int .u64 u.nt.ad.lo, .int .i64 u.nt.bits, .int .i64 u.now, .int .i64 u.num, .bool u.good], .bool true]) (by simp [results, Tryz.results5, go_sem, e90, e91, e92, e93, e94, e95, e96, e97, e98, e99, e910, e911]) rfl ⟨?_, b9⟩
          rfl
    · rw [if_pos (Or.inr hlen)]
      generalize clParts (kindOf hd) = L at *
      generalize kindOf hd = K at *
      generalize S.length = n at *
      have q1 : ((n : Int) != 1 + (L.length : Int)) = true := by rw [bne_iff_ne]; omega
      have q2 : ¬ (n : Int) = 1 + (L.length : Int) := by omega
      unfold zeroCl
      simp only [show ((0 : Nat) : Int) = 0 from rfl]
      clear hlen
      go_enter Tryz.func5, Tryz.ntmps5
      go_wp2_with (first | (go_at_call 13; refine (HSP.out _).mono ?_; rintro e w1 ⟨g, cap, rfl, hcap, hg, hcell, b1⟩; obtain ⟨c1, f1⟩ := bcell b1; have z1 := b1.size; (try simp at z1); have l1 : w.heap.size < w1.heap.size := (by omega); have h0 := hcell 0 _ hS0; have HCELL := Lib.hid hcell; clear c1 f1 hcell) | (go_at_call 14; (with_reducible refine (HK.out _).mono ?_); rintro e w2 ⟨rfl, b2⟩; obtain ⟨c2, f2⟩ := bcell b2; have z2 := b2.size; (try simp at z2); have d2a := fun o => c2 (g) o (by first | omega | (simp; done) | (simp; omega)); clear c2 f2) | (go_at_call 15; (with_reducible refine (HP.out _).mono ?_); rintro e w3 ⟨a, cc, rfl, hpa, b3⟩; have HPA := Lib.hid hpa; clear hpa; obtain ⟨c3, f3⟩ := bcell b3; have z3 := b3.size; (try simp at z3); have d3 := fun o => c3 (w2.heap.size) o (by first | omega | (simp; done) | (simp; omega)); have hR3 := (((HR0.out.below b1).below b2).alloc' _).below b3; have r0 := hR3.cell (i := 0) rfl; have r1 := hR3.cell (i := 1) rfl; have r2 := hR3.cell (i := 2) rfl; have r3 := hR3.cell (i := 3) rfl; have r4 := hR3.cell (i := 4) rfl; have r5 := hR3.cell (i := 5) rfl; have r6 := hR3.cell (i := 6) rfl; have r7 := hR3.cell (i := 7) rfl; have r8 := hR3.cell (i := 8) rfl; have r9 := hR3.cell (i := 9) rfl; have r10 := hR3.cell (i := 10) rfl; have r11 := hR3.cell (i := 11) rfl; have rf := hR3.frozen; have rl := hR3.lt; have HR3 := Lib.hid hR3; clear c3 f3 hR3))
      refine bodyPost_named fun W9 h9 => ?_
      have e90 : W9.cell? ⟨w.heap.size, 0, none⟩ = some (.int .i64 0) := by subst h9; (first | (simp [go_sem, *]; done) | (simp (disch := first | omega | (simp; omega) | (simp [go_sem, *]; done)) [go_sem, World.cell?_setCell_far, World.cell?_alloc_past, *]; done))
      have e91 : W9.cell? ⟨w.heap.size, 1, none⟩ = some (.bool false) := by subst h9; (first | (simp [go_sem, *]; done) | (simp (disch := first | omega | (simp; omega) | (simp [go_sem, *]; done)) [go_sem, World.cell?_setCell_far, World.cell?_alloc_past, *]; done))
      have e92 : W9.cell? ⟨w.heap.size, 2, none⟩ = some (.int .u64 0) := by subst h9; (first | (simp [go_sem, *]; done) | (simp (disch := first | omega | (simp; omega) | (simp [go_sem, *]; done)) [go_sem, World.cell?_setCell_far, World.cell?_alloc_past, *]; done))
      have e93 : W9.cell? ⟨w.heap.size, 3, none⟩ = some (.int .u64 0) := by subst h9; (first | (simp [go_sem, *]; done) | (simp (disch := first | omega | (simp; omega) | (simp [go_sem, *]; done)) [go_sem, World.cell?_setCell_far, World.cell?_alloc_past, *]; done))
      have e94 : W9.cell? ⟨w.heap.size, 4, none⟩ = some (.int .i64 0) := by subst h9; (first | (simp [go_sem, *]; done) | (simp (disch := first | omega | (simp; omega) | (simp [go_sem, *]; done)) [go_sem, World.cell?_setCell_far, World.cell?_alloc_past, *]; done))
      have e95 : W9.cell? ⟨w.heap.size, 5, none⟩ = some (.bool false) := by subst h9; (first | (simp [go_sem, *]; done) | (simp (disch := first | omega | (simp; omega) | (simp [go_sem, *]; done)) [go_sem, World.cell?_setCell_far, World.cell?_alloc_past, *]; done))
      have e96 : W9.cell? ⟨w.heap.size, 6, none⟩ = some (.int .u64 0) := by subst h9; (first | (simp [go_sem, *]; done) | (simp (disch := first | omega | (simp; omega) | (simp [go_sem, *]; done)) [go_sem, World.cell?_setCell_far, World.cell?_alloc_past, *]; done))
      have e97 : W9.cell? ⟨w.heap.size, 7, none⟩ = some (.int .u64 0) := by subst h9; (first | (simp [go_sem, *]; done) | (simp (disch := first | omega | (simp; omega) | (simp [go_sem, *]; done)) [go_sem, World.cell?_setCell_far, World.cell?_alloc_past, *]; done))
      have e98 : W9.cell? ⟨w.heap.size, 8, none⟩ = some (.int .i64 0) := by subst h9; (first | (simp [go_sem, *]; done) | (simp (disch := first | omega | (simp; omega) | (simp [go_sem, *]; done)) [go_sem, World.cell?_setCell_far, World.cell?_alloc_past, *]; done))
      have e99 : W9.cell? ⟨w.heap.size, 9, none⟩ = some (.int .i64 0) := by subst h9; (first | (simp [go_sem, *]; done) | (simp (disch := first | omega | (simp; omega) | (simp [go_sem, *]; done)) [go_sem, World.cell?_setCell_far, World.cell?_alloc_past, *]; done))
      have e910 : W9.cell? ⟨w.heap.size, 10, none⟩ = some (.int .i64 0) := by subst h9; (first | (simp [go_sem, *]; done) | (simp (disch := first | omega | (simp; omega) | (simp [go_sem, *]; done)) [go_sem, World.cell?_setCell_far, World.cell?_alloc_past, *]; done))
      have e911 : W9.cell? ⟨w.heap.size, 11, none⟩ = some (.bool false) := by subst h9; (first | (simp [go_sem, *]; done) | (simp (disch := first | omega | (simp; omega) | (simp [go_sem, *]; done)) [go_sem, World.cell?_setCell_far, World.cell?_alloc_past, *]; done))
      have b9 : Below w.heap.size w W9 := by subst h9; (repeat (first | with_reducible assumption | with_reducible exact Below.refl _ _ | with_reducible refine Below.setCell ?_ (by first | omega | (simp; done) | (simp; omega)) _ | with_reducible refine Below.alloc ?_ (by first | omega | (simp; done) | (simp; omega)) _ | with_reducible refine Below.drew ?_ | (with_reducible refine Below.trans ?_ (Below.mono (by with_reducible assumption) (by first | omega | (simp; done) | (simp; omega)))) | (refine Below.trans ?_ (Below.mono (by assumption) (by first | omega | (simp; done) | (simp; omega))))))
      clear h9
      refine bodyPost_ret (v := .tuple #[.agg #[.int .i64 0, .bool false, .int .u64 0, .int .u64 0, .int .i64 0, .bool false, .int .u64 0, .int .u64 0, .int .i64 0, .int .i64 0, .int .i64 0, .bool false], .bool false]) (by simp [results, Tryz.results5, go_sem, e90, e91, e92, e93, e94, e95, e96, e97, e98, e99, e910, e911]) rfl ⟨?_, b9⟩
      rfl
end Go.Proofs.YtnohkfbapibmdaaGreat
