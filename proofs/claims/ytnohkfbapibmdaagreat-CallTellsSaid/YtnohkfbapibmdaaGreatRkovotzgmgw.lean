/- Texts put together: EndP. No condition. -/
import Derived.Test.YtnohkfbapibmdaaGreatRptqhemguzp
namespace Go.Proofs.YtnohkfbapibmdaaGreat
open Go.RowKit
set_option linter.unusedSimpArgs false
set_option linter.unusedVariables false

def GivesEn (w : World) (r : En × Bool) (e : Ending) (w' : World) : Prop := e = .returned (.tuple #[.agg #[.bool r.1.ad.v6, .int .u64 r.1.ad.hi, .int .u64 r.1.ad.lo, .int .i64 r.1.port], .bool r.2]) ∧ Below w.heap.size w w'
theorem has58 (h : List UInt8) (w : World) : Calls Tryz.prog 68 #[.string (bs h), .string ⟨#[58]⟩] w fun e w' => e = .returned (.bool (decide ((58 : UInt8) ∈ h))) ∧ w = w' := by
  refine (Tryz.strings_Contains_one (bs h) 58 w).mono fun e w' ⟨h1, h2⟩ => ⟨?_, h2.symm⟩
  rw [h1, bs_data]
  congr 2
  rw [Bool.eq_iff_iff, decide_eq_true_iff, decide_eq_true_iff]
  constructor
  · intro hi
    obtain ⟨o, ho⟩ : ∃ o : Nat, Lib.indexByte h 58 = o := ⟨(Lib.indexByte h 58).toNat, by omega⟩
    exact List.mem_of_getElem? (Lib.indexByte_some ho).1
  · intro hm
    have := Lib.indexByte_ge h 58
    rcases Int.lt_or_le (Lib.indexByte h 58) 0 with hn | hn
    · obtain ⟨k, hk⟩ := List.mem_iff_getElem?.1 hm
      exact absurd hk (Lib.indexByte_none (by omega) k)
    · exact hn
theorem cutOpen (h : List UInt8) (w : World) : Calls Tryz.prog 94 #[.string (bs h), .string ⟨#[91]⟩] w fun e w' => e = .returned (.tuple #[.string (bs (if h[0]? = some 91 then h.drop 1 else h)), .bool (decide (h[0]? = some 91))]) ∧ w = w' := by
  refine (Tryz.strings_CutPrefix (bs h) ⟨#[91]⟩ w).mono fun e w' ⟨h1, h2⟩ => ⟨?_, h2.symm⟩
  rw [h1, bs_data]
  have hp : Lib.hasPrefix h [91] = decide (h[0]? = some 91) := by
    unfold Lib.hasPrefix
    cases h with
    | nil => rfl
    | cons x r => rw [Bool.eq_iff_iff]; simp [List.isPrefixOf]; exact eq_comm
  have ht : Lib.trimPrefix h [91] = if h[0]? = some 91 then h.drop 1 else h := by
    unfold Lib.trimPrefix; rw [hp]; simp only [decide_eq_true_iff]; rfl
  show Ending.returned (.tuple #[.string ⟨(Lib.trimPrefix h [91]).toArray⟩, .bool (Lib.hasPrefix h [91])]) = _
  rw [hp, ht]; rfl
theorem cutShut (h : List UInt8) (w : World) (hl : h.length ≤ 9223372036854775807) : Calls Tryz.prog 95 #[.string (bs h), .string ⟨#[93]⟩] w fun e w' => e = .returned (.tuple #[.string (bs (if h.getLast? = some 93 then h.take (h.length - 1) else h)), .bool (decide (h.getLast? = some 93))]) ∧ w = w' := by
  refine (Tryz.strings_CutSuffix (bs h) ⟨#[93]⟩ w (by rw [bs_size]; exact hl)).mono fun e w' ⟨h1, h2⟩ => ⟨?_, h2.symm⟩
  rw [h1, bs_data]
  have hp : Lib.hasSuffix h [93] = decide (h.getLast? = some 93) := by
    unfold Lib.hasSuffix
    rw [Bool.eq_iff_iff, decide_eq_true_iff, List.isSuffixOf_iff_suffix]
    constructor
    · rintro ⟨t, rfl⟩; simp
    · intro hg
      exact ⟨h.dropLast, by
        obtain ⟨hne, hx⟩ := List.getLast?_eq_some_iff.1 hg
        rw [hx]; simp⟩
  have ht : Lib.trimSuffix h [93] = if h.getLast? = some 93 then h.take (h.length - 1) else h := by
    unfold Lib.trimSuffix; rw [hp]; simp only [decide_eq_true_iff]; rfl
  show Ending.returned (.tuple #[.string ⟨(Lib.trimSuffix h [93]).toArray⟩, .bool (Lib.hasSuffix h [93])]) = _
  rw [hp, ht]; rfl
theorem boxed_last {h : List UInt8} (hb : h[0]? = some 91) : (h.drop 1).getLast? = some 93 ↔ boxed h := by
  cases h with
  | nil => cases hb
  | cons x r =>
    unfold boxed
    rw [List.drop_one, List.tail_cons]
    cases r with
    | nil => simp
    | cons y r => simp only [List.getLast?_eq_getElem?, List.length_cons, hb]; simp
set_option maxRecDepth 100000 in
set_option maxHeartbeats 4000000 in
theorem host_any (h : List UInt8) (w : World) (hl : h.length ≤ 4000000000) (hc : Cpu w) : Calls Tryz.prog 69 #[.string (bs h)] w (GivesAd w (hostP h)) := by
  have HC := Lib.hid hc; clear hc
  have hO := fun w => cutOpen h w
  unfold GivesAd hostP
  by_cases hb : h[0]? = some 91
  · rw [if_pos hb] at hO ⊢
    rw [decide_eq_true hb] at hO
    have hlast := boxed_last hb
    have hS := fun w => cutShut (h.drop 1) w (by rw [List.length_drop]; omega)
    have hin : (h.drop 1).take ((h.drop 1).length - 1) = innerL h := by unfold innerL; rw [List.length_drop]; congr 1
    rw [hin] at hS
    have hil : (innerL h).length ≤ 4000000000 := by unfold innerL; rw [List.length_take, List.length_drop]; omega
    by_cases hx : boxed h
    · rw [if_pos (hlast.2 hx), decide_eq_true (hlast.2 hx)] at hS
      have hH := fun w => has58 (innerL h) w
      by_cases h58 : (58 : UInt8) ∈ innerL h
      · rw [if_pos ⟨hx, h58⟩]
        rw [decide_eq_true h58] at hH
        have hP := fun w hc => adParse_any (bs (innerL h)) w (by rw [bs_size]; exact hil) hc
        rw [bs_data] at hP
        unfold GivesAd at hP
        generalize adParse (innerL h) = p at *
        generalize innerL h = inn at *
        generalize h.drop 1 = hd at *
        clear hin hlast
        have HO := Lib.hid hO; have HS := Lib.hid hS; have HH := Lib.hid hH; have HP := Lib.hid hP; clear hO hS hH hP
        go_enter Tryz.func69, Tryz.ntmps69
        go_wp2_with (first | (go_at_call 94; (with_reducible refine (HO.out _).mono ?_); rintro e w1 ⟨rfl, rfl⟩) | (go_at_call 95; (with_reducible refine (HS.out _).mono ?_); rintro e w2 ⟨rfl, rfl⟩) | (go_at_call 68; (with_reducible refine (HH.out _).mono ?_); rintro e w3 ⟨rfl, rfl⟩) | (go_at_call 41; (with_reducible refine (HP.out _ (HC.out.below (by (repeat (first | assumption | exact Below.refl _ _ | refine Below.setCell ?_ (by first | omega | (simp; done) | (simp; omega)) _ | refine Below.alloc ?_ (by first | omega | (simp; done) | (simp; omega)) _ | refine Below.drew ?_ | (refine Below.trans ?_ (Below.mono (by assumption) (by first | omega | (simp; done) | (simp; omega))))))))).mono ?_); rintro e w4 ⟨rfl, b4⟩; obtain ⟨c4, f4⟩ := bcell b4; have z4 := b4.size; (try simp at z4); have l4a : w.heap.size < w4.heap.size := (by omega); have n4a := Nat.ne_of_lt l4a; have d4a := fun o => c4 (w.heap.size) o (by first | omega | (simp; done) | (simp; omega)); have q4a := fun o => f4 (w.heap.size) o (by first | omega | (simp; done) | (simp; omega)); clear c4 f4))
        refine bodyPost_ret (v := .tuple #[.agg #[.bool p.1.v6, .int .u64 p.1.hi, .int .u64 p.1.lo], .bool p.2]) (by simp [results, Tryz.results69, go_sem, *]) rfl ⟨rfl, ?_⟩
        (repeat (first | assumption | exact Below.refl _ _ | refine Below.setCell ?_ (by first | omega | (simp; done) | (simp; omega)) _ | refine Below.alloc ?_ (by first | omega | (simp; done) | (simp; omega)) _ | refine Below.drew ?_ | (refine Below.trans ?_ (Below.mono (by assumption) (by first | omega | (simp; done) | (simp; omega))))))
      · rw [if_neg (fun c => h58 c.2)]
        rw [decide_eq_false h58] at hH
        unfold zeroA
        generalize innerL h = inn at *
        generalize h.drop 1 = hd at *
        clear hin hlast
        have HO := Lib.hid hO; have HS := Lib.hid hS; have HH := Lib.hid hH; clear hO hS hH
        go_enter Tryz.func69, Tryz.ntmps69
        go_wp2_with (first | (go_at_call 94; (with_reducible refine (HO.out _).mono ?_); rintro e w1 ⟨rfl, rfl⟩) | (go_at_call 95; (with_reducible refine (HS.out _).mono ?_); rintro e w2 ⟨rfl, rfl⟩) | (go_at_call 68; (with_reducible refine (HH.out _).mono ?_); rintro e w3 ⟨rfl, rfl⟩))
        refine bodyPost_ret (v := .tuple #[.agg #[.bool false, .int .u64 0, .int .u64 0], .bool false]) (by simp [results, Tryz.results69, go_sem, *]) rfl ⟨rfl, ?_⟩
        (repeat (first | assumption | exact Below.refl _ _ | refine Below.setCell ?_ (by first | omega | (simp; done) | (simp; omega)) _ | refine Below.alloc ?_ (by first | omega | (simp; done) | (simp; omega)) _ | refine Below.drew ?_ | (refine Below.trans ?_ (Below.mono (by assumption) (by first | omega | (simp; done) | (simp; omega))))))
    · rw [if_neg (fun c => hx c.1)]
      rw [decide_eq_false (fun c => hx (hlast.1 c))] at hS
      unfold zeroA
      generalize (if (h.drop 1).getLast? = some 93 then innerL h else h.drop 1) = z at *
      generalize h.drop 1 = hd at *
      clear hin hlast
      have HO := Lib.hid hO; have HS := Lib.hid hS; clear hO hS
      go_enter Tryz.func69, Tryz.ntmps69
      go_wp2_with (first | (go_at_call 94; (with_reducible refine (HO.out _).mono ?_); rintro e w1 ⟨rfl, rfl⟩) | (go_at_call 95; (with_reducible refine (HS.out _).mono ?_); rintro e w2 ⟨rfl, rfl⟩))
      refine bodyPost_ret (v := .tuple #[.agg #[.bool false, .int .u64 0, .int .u64 0], .bool false]) (by simp [results, Tryz.results69, go_sem, *]) rfl ⟨rfl, ?_⟩
      (repeat (first | assumption | exact Below.refl _ _ | refine Below.setCell ?_ (by first | omega | (simp; done) | (simp; omega)) _ | refine Below.alloc ?_ (by first | omega | (simp; done) | (simp; omega)) _ | refine Below.drew ?_ | (refine Below.trans ?_ (Below.mono (by assumption) (by first | omega | (simp; done) | (simp; omega))))))
  · rw [if_neg hb] at hO ⊢
    rw [decide_eq_false hb] at hO
    have hP := fun w hc => adParse_any (bs h) w (by rw [bs_size]; exact hl) hc
    rw [bs_data] at hP
    unfold GivesAd at hP
    generalize adParse h = p at *
    have HO := Lib.hid hO; have HP := Lib.hid hP; clear hO hP
    go_enter Tryz.func69, Tryz.ntmps69
    go_wp2_with (first | (go_at_call 94; (with_reducible refine (HO.out _).mono ?_); rintro e w1 ⟨rfl, rfl⟩) | (go_at_call 41; (with_reducible refine (HP.out _ (HC.out.below (by (repeat (first | assumption | exact Below.refl _ _ | refine Below.setCell ?_ (by first | omega | (simp; done) | (simp; omega)) _ | refine Below.alloc ?_ (by first | omega | (simp; done) | (simp; omega)) _ | refine Below.drew ?_ | (refine Below.trans ?_ (Below.mono (by assumption) (by first | omega | (simp; done) | (simp; omega))))))))).mono ?_); rintro e w4 ⟨rfl, b4⟩; obtain ⟨c4, f4⟩ := bcell b4; have z4 := b4.size; (try simp at z4); have l4a : w.heap.size < w4.heap.size := (by omega); have n4a := Nat.ne_of_lt l4a; have d4a := fun o => c4 (w.heap.size) o (by first | omega | (simp; done) | (simp; omega)); have q4a := fun o => f4 (w.heap.size) o (by first | omega | (simp; done) | (simp; omega)); clear c4 f4))
    refine bodyPost_ret (v := .tuple #[.agg #[.bool p.1.v6, .int .u64 p.1.hi, .int .u64 p.1.lo], .bool p.2]) (by simp [results, Tryz.results69, go_sem, *]) rfl ⟨rfl, ?_⟩
    (repeat (first | assumption | exact Below.refl _ _ | refine Below.setCell ?_ (by first | omega | (simp; done) | (simp; omega)) _ | refine Below.alloc ?_ (by first | omega | (simp; done) | (simp; omega)) _ | refine Below.drew ?_ | (refine Below.trans ?_ (Below.mono (by assumption) (by first | omega | (simp; done) | (simp; omega))))))
end Go.Proofs.YtnohkfbapibmdaaGreat
