/- Texts put together: TabB. No condition. -/
import Derived.Test.YtppmjbnhghaffaaRzxcaatihgc
namespace Go.Proofs.Ytppmjbnhghaffaa
open Go.RowKit Go.Lib

theorem fnI_cases (l : List Pe) (t : Pe → Bool) : fnI l t = -1 ∨ ∃ i : Nat, fnI l t = i ∧ i < l.length := by
  unfold fnI
  cases h : l.findIdx? t with
  | none => exact Or.inl rfl
  | some i =>
    rw [List.findIdx?_eq_some_iff_getElem] at h
    exact Or.inr ⟨i, rfl, h.1⟩
/-- a table without an end's peer, and the code -/
def dropT (l : List Pe) (e : En) : List Pe × Int := if fdI l e < 0 then ([], 6) else (l.take (fdI l e).toNat ++ l.drop ((fdI l e).toNat + 1), 0)
set_option maxRecDepth 100000 in
set_option maxHeartbeats 4000000 in
theorem tdrop_any (v : Value) (l : List Pe) (en : En) (w : World) (h : ReadsL peV 10 w v l) (hl : l.length ≤ 1000000) :
    Calls Try.prog 67 #[v, .agg #[.bool en.ad.v6, .int .u64 en.ad.hi, .int .u64 en.ad.lo, .int .i64 en.port]] w fun e w' => ∃ r, e = .returned (.tuple #[r, .int .i64 (dropT l en).2]) ∧ w'.ownsRow w.heap.size 66 10 r (dropT l en).1.length ((dropT l en).1.flatMap peV) ∧ Below w.heap.size w w' := by
  have HFd := Lib.hid (fun (W : World) (hb : Below w.heap.size w W) => tfind_any v l en W (ReadsL.below h hb))
  have HCl := Lib.hid (fun (W : World) (hb : Below w.heap.size w W) => clonePe v l W (ReadsL.below h hb) hl)
  have B0 : Below w.heap.size w (w.alloc (.cells #[.bool en.ad.v6, .int .u64 en.ad.hi, .int .u64 en.ad.lo, .int .i64 en.port] 34)) := by (repeat (first | with_reducible assumption | with_reducible exact Below.refl _ _ | with_reducible refine Below.setCell ?_ (by first | omega | (simp; done) | (simp; omega)) _ | with_reducible refine Below.alloc ?_ (by first | omega | (simp; done) | (simp; omega)) _ | with_reducible refine Below.drew ?_ | (with_reducible refine Below.trans ?_ (Below.mono (by with_reducible assumption) (by first | omega | (simp; done) | (simp; omega)))) | (refine Below.trans ?_ (Below.mono (by assumption) (by first | omega | (simp; done) | (simp; omega))))))
  have HB0 := Lib.hid B0
  clear B0 h
  rcases fnI_cases l (fun p => decide (p.en = en)) with hc | ⟨i, hc, hi⟩
  · have hc' : fdI l en = -1 := hc
    have hd : dropT l en = ([], 6) := by unfold dropT; rw [hc', if_pos (by omega)]
    rw [hd]
    rw [hc'] at HFd
    clear hc hc' hd
    go_enter Try.func67, Try.ntmps67
    go_wp2_with (go_at_call 71; (with_reducible refine (HFd.out _ HB0.out).mono ?_); rintro e w1 ⟨rfl, b1⟩)
    have b2 := below2 HB0.out b1
    go_ret2
    exact ⟨_, rfl, World.ownsRow_nil _ _ _ _, b2⟩
  · have hc' : fdI l en = i := hc
    have hd : dropT l en = (l.take i ++ l.drop (i + 1), 0) := by unfold dropT; rw [hc', if_neg (by omega), Int.toNat_natCast]
    have hlen : (l.take i ++ l.drop (i + 1)).length = i + (l.length - (i + 1)) := by rw [List.length_append, List.length_take, List.length_drop]; omega
    rw [hd]
    show Calls _ _ _ _ (fun e w' => ∃ r, e = .returned (.tuple #[r, .int .i64 0]) ∧ w'.ownsRow w.heap.size 66 10 r (l.take i ++ l.drop (i + 1)).length ((l.take i ++ l.drop (i + 1)).flatMap peV) ∧ Below w.heap.size w w')
    rw [hlen]
    obtain ⟨XS, hXS⟩ : ∃ XS, XS = (l.take i ++ l.drop (i + 1)).flatMap peV := ⟨_, rfl⟩
    have HD := Lib.hid (fun g cap base W ho => peDelete l i (i + 1) (Nat.lt_succ_self i) hi hl g cap base W ho)
    rw [← hXS] at HD ⊢
    rw [hc'] at HFd
    have HN : Hid (l ≠ []) := by rintro rfl; simp at hi
    have hw1 : IntKind.i64.wrap ((i : Int) + 1) = (i : Int) + 1 := by rw [IntKind.wrap_i64]; omega
    have hg0 : ¬ ((i : Int) < 0) := by omega
    have HE : Hid (((i + 1 : Nat) : Int) = (i : Int) + 1) := by show _ = _; omega
    have HI := Lib.hid hi
    clear hc hc' hd hXS hlen hi
    go_enter Try.func67, Try.ntmps67
    go_wp2_with (first
      | (go_at_call 71; (with_reducible refine (HFd.out _ HB0.out).mono ?_); rintro e w1 ⟨rfl, b1⟩; have b2 := below2 HB0.out b1; clear b1)
      | (go_at_call 100; (with_reducible refine (HCl.out _ b2).mono ?_); rintro e w3 ⟨r3, rfl, o3, b3, k3⟩; obtain ⟨g, c, rfl⟩ := k3 HN.out; have S3 := HD.out g c w1.heap.size w3 o3; rw [HE.out] at S3)
      | (go_at_call 113; (with_reducible refine S3.mono ?_); rintro e w4 ⟨rfl, o4, g4⟩))
    go_ret2
    refine ⟨_, rfl, owns_base o4 b2.size, ?_⟩
    have hg1 := (owns_blk2 o3).1
    exact below_far (below2 b2 b3) g4 (Nat.le_trans b2.size hg1) (o3.lt g rfl).2
end Go.Proofs.Ytppmjbnhghaffaa
