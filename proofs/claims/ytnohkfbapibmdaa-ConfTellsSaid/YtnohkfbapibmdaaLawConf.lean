/- The law of confs: what two texts tell alike; a conf told and read again. -/
import Derived.Test.YtnohkfbapibmdaaConfQ
import Derived.Test.YtnohkfbapibmdaaConfU
import Derived.Test.YtnohkfbapibmdaaBlkQ
namespace Go.Proofs.Ytnohkfbapibmdaa
open Go.RowKit
set_option linter.unusedSimpArgs false
set_option linter.unusedVariables false

theorem eqlCf_self (a : Cf) (W : World) : (binOp .eql 70 (.agg #[.int .i64 a.mi, .int .i64 a.mo, .int .i64 a.sh, .int .i64 a.mb, .int .i64 a.mbk, .int .u64 a.secret, .int .i64 a.qg, .int .i64 a.qp, .int .i64 a.qw, .int .i64 a.qt, .int .i64 a.half, .int .i64 a.limit, .int .i64 a.banfor, .int .i64 a.base, .int .i64 a.cap, .int .i64 a.jitter]) (.agg #[.int .i64 a.mi, .int .i64 a.mo, .int .i64 a.sh, .int .i64 a.mb, .int .i64 a.mbk, .int .u64 a.secret, .int .i64 a.qg, .int .i64 a.qp, .int .i64 a.qw, .int .i64 a.qt, .int .i64 a.half, .int .i64 a.limit, .int .i64 a.banfor, .int .i64 a.base, .int .i64 a.cap, .int .i64 a.jitter])).run Try.prog W = .ok (.bool true) W := by
  go_simp
theorem neqCf_self (a : Cf) (W : World) : (binOp .neq 70 (.agg #[.int .i64 a.mi, .int .i64 a.mo, .int .i64 a.sh, .int .i64 a.mb, .int .i64 a.mbk, .int .u64 a.secret, .int .i64 a.qg, .int .i64 a.qp, .int .i64 a.qw, .int .i64 a.qt, .int .i64 a.half, .int .i64 a.limit, .int .i64 a.banfor, .int .i64 a.base, .int .i64 a.cap, .int .i64 a.jitter]) (.agg #[.int .i64 a.mi, .int .i64 a.mo, .int .i64 a.sh, .int .i64 a.mb, .int .i64 a.mbk, .int .u64 a.secret, .int .i64 a.qg, .int .i64 a.qp, .int .i64 a.qw, .int .i64 a.qt, .int .i64 a.half, .int .i64 a.limit, .int .i64 a.banfor, .int .i64 a.base, .int .i64 a.cap, .int .i64 a.jitter])).run Try.prog W = .ok (.bool false) W := by
  go_simp
def aw29 : List UInt8 := [105, 110, 32, 56, 10, 111, 117, 116, 32, 120, 10]
theorem aw29_parse : cfParse aw29 = (zeroCf, 2, 2) := by decide +kernel
theorem plain_ok : cfRight plainCf = true := by decide +kernel
theorem plain_len : (bs (cfText plainCf)).size ≤ 4000000000 := by decide +kernel
theorem bs_list (l : List UInt8) : (bs l).data.toList = l := by simp [bs]
theorem field_plain (W : World) : (Instr.field 70 (.agg #[.int .i64 8]) 1).run Try.prog W = (Instr.field 70 (.agg #[.int .i64 8]) 1).run Try.prog W := rfl
set_option maxRecDepth 100000 in
set_option maxHeartbeats 8000000 in
theorem awake29_any (w : World) : Calls Try.prog 46 #[] w fun e w' => e = .returned (.bool true) ∧ Below w.heap.size w w' := by
  have h1 := fun w => cfPlain_any w
  have h2 := fun w => cfText_any plainCf w
  have h3 := fun w => cfParse_any (bs (cfText plainCf)) w plain_len
  have h4 := fun w => cfParse_any ⟨#[105, 110, 32, 56, 10, 111, 117, 116, 32, 120, 10]⟩ w (by decide +kernel)
  have r4 : cfParse (ByteArray.mk #[105, 110, 32, 56, 10, 111, 117, 116, 32, 120, 10]).data.toList = (zeroCf, 2, 2) := aw29_parse
  rw [bs_list, cfParse_text _ plain_ok] at h3
  rw [r4] at h4
  unfold GivesCf at h3 h4
  have q := fun W => eqlCf_self plainCf W
  generalize cfText plainCf = tx at h2 h3
  unfold plainCf zeroCf at *
  simp only [show ((1 : Nat) : Int) = 1 from rfl, show ((0 : Nat) : Int) = 0 from rfl] at h1 h2 h3 h4 q
  have H1 := Lib.hid h1; have H2 := Lib.hid h2; have H3 := Lib.hid h3; have H4 := Lib.hid h4
  clear h1 h2 h3 h4 r4
  go_enter Try.func46, Try.ntmps46
  go_upto_region 3 with (first | (go_at_call 51; (with_reducible refine (H1.out _).mono ?_); rintro e wc1 ⟨rfl, bc1⟩) | (go_at_call 53; (with_reducible refine (H2.out _).mono ?_); rintro e wc2 ⟨rfl, bc2⟩) | (go_at_call 47; (with_reducible refine (H3.out wc2).mono ?_); rintro e wc3 ⟨rfl, bc3⟩; have bw3 := bc1.trans ((bc2.trans (bc3.mono bc2.size)).mono bc1.size); have z3 := bw3.size; clear bc1 bc2 bc3) | (refine list_store_blk rfl 70 _ _ rfl (wc3.heap.size) _ _ 70 (BlockIs.newAt' _ _ _ (by simp)) rfl rfl (by kernel_rfl) rfl (by simp [Value.oneCell']) w.heap.size w (by (repeat (first | with_reducible assumption | with_reducible exact Below.refl _ _ | with_reducible refine Below.setCell ?_ (by first | omega | (simp; done) | (simp; omega)) _ | with_reducible refine Below.alloc ?_ (by first | omega | (simp; done) | (simp; omega)) _ | with_reducible refine Below.drew ?_ | (with_reducible refine Below.trans ?_ (Below.mono (by with_reducible assumption) (by first | omega | (simp; done) | (simp; omega)))) | (refine Below.trans ?_ (Below.mono (by assumption) (by first | omega | (simp; done) | (simp; omega))))))) (by omega) ?_; intro WWx hO hoth hsz bw1; clear hoth; have z4 := bw1.size) | (go_at_call 47; (with_reducible refine (H4.out _).mono ?_); rintro e wc4 ⟨rfl, bc4⟩; have hO4 := hO.below bc4; have bw4 := bw1.trans (bc4.mono z4); have z5 := bw4.size) | (refine list_store_blk rfl 70 _ _ rfl (wc4.heap.size) _ _ 70 (BlockIs.newAt' _ _ _ (by simp)) rfl rfl (by kernel_rfl) rfl (by simp [Value.oneCell']) w.heap.size w (by (repeat (first | with_reducible assumption | with_reducible exact Below.refl _ _ | with_reducible refine Below.setCell ?_ (by first | omega | (simp; done) | (simp; omega)) _ | with_reducible refine Below.alloc ?_ (by first | omega | (simp; done) | (simp; omega)) _ | with_reducible refine Below.drew ?_ | (with_reducible refine Below.trans ?_ (Below.mono (by with_reducible assumption) (by first | omega | (simp; done) | (simp; omega)))) | (refine Below.trans ?_ (Below.mono (by assumption) (by first | omega | (simp; done) | (simp; omega))))))) (by omega) ?_; intro WWy hP hothy hszy bw2))
  have zO := hO4.lt
  have hO5 := hothy wc3.heap.size _ _ (by omega) (hO4.alloc' _)
  clear hothy hP hO hO4
  have hQ := BlockIs.ext hO5
  have e2 := fun Y => (hQ _ ⟨Y, rfl⟩).cell (i := 2) rfl
  refine wp_region_ext (by kernel_rfl) (by kernel_rfl) ?_
  repeat (first | (refine wpQuiet_load_blk (by rfl) _ _ rfl _ _ _ hQ rfl Try.underlying70 (by kernel_rfl) ?_; go_simp) | go_big_quiet_step ((go_at_call 51; with_reducible exact qe (H1.out _))))
  refine wpQuiet_nil ?_
  first | (intro _ hw'; obtain ⟨x, hw''⟩ := hw'; subst hw'') | intro x
  go_wp2_with fail
  go_ret
  exact ⟨rfl, bw2.trans ((ext_below _ _).mono bw2.size)⟩
set_option maxRecDepth 100000 in
set_option maxHeartbeats 8000000 in
theorem confTells_any (c : Cf) (s : ByteArray) (w : World) : Calls Try.prog 9 #[.agg #[.int .i64 c.mi, .int .i64 c.mo, .int .i64 c.sh, .int .i64 c.mb, .int .i64 c.mbk, .int .u64 c.secret, .int .i64 c.qg, .int .i64 c.qp, .int .i64 c.qw, .int .i64 c.qt, .int .i64 c.half, .int .i64 c.limit, .int .i64 c.banfor, .int .i64 c.base, .int .i64 c.cap, .int .i64 c.jitter], .string s] w fun e w' => e = .returned (.bool true) ∧ Below w.heap.size w w' := by
  have HA := Lib.hid (fun w => awake29_any w)
  rcases Int.lt_or_le 4000 (s.size : Int) with hl | hl
  · go_enter Try.func9, Try.ntmps9
    go_wp2_with (first | (go_at_call 46; (with_reducible refine (HA.out _).mono ?_); rintro e w2 ⟨rfl, b2⟩; obtain ⟨c2, f2⟩ := bcell b2; have z2 := b2.size; (try simp at z2); clear c2 f2))
    go_ret
    refine ⟨rfl, ?_⟩
    (repeat (first | with_reducible assumption | with_reducible exact Below.refl _ _ | with_reducible refine Below.setCell ?_ (by first | omega | (simp; done) | (simp; omega)) _ | with_reducible refine Below.alloc ?_ (by first | omega | (simp; done) | (simp; omega)) _ | with_reducible refine Below.drew ?_ | (with_reducible refine Below.trans ?_ (Below.mono (by with_reducible assumption) (by first | omega | (simp; done) | (simp; omega)))) | (refine Below.trans ?_ (Below.mono (by assumption) (by first | omega | (simp; done) | (simp; omega))))))
  · have h1 := fun w => cfPlain_any w
    have h2 := fun w => refCfPlain_any w
    have h3 := fun w => cfRight_any c w
    have h4 := fun w => refCfRight_any c w
    have h5 := fun w => cfText_any c w
    have h6 := fun w => refCfText_any c w
    have h7 := fun w => cfParse_any s w (by omega)
    have h8 := fun w => refCfParse_any s w (by omega)
    have q1 := fun W => eqlCf_self plainCf W
    have q2 := fun W => eqlCf_self (cfParse s.data.toList).1 W
    generalize cfParse s.data.toList = rr at *
    obtain ⟨r, ra, rb⟩ := rr
    obtain ⟨pl, hpl⟩ : ∃ p, p = plainCf := ⟨_, rfl⟩
    rw [← hpl] at h1 h2 q1
    unfold GivesCf at h7 h8
    simp only at h7 h8 q2
    have e1 : (cfRight c == cfRight c) = true := by simp
    have e3 : ((bs (cfText c)).toList == (bs (cfText c)).toList) = true := by simp
    generalize cfText c = tx at *
    generalize cfRight c = rt at *
    have H1 := Lib.hid h1; have H2 := Lib.hid h2; have H3 := Lib.hid h3; have H4 := Lib.hid h4; have H5 := Lib.hid h5; have H6 := Lib.hid h6; have H7 := Lib.hid h7; have H8 := Lib.hid h8
    clear h1 h2 h3 h4 h5 h6 h7 h8 hpl
    go_enter Try.func9, Try.ntmps9
    go_upto_region 3 with fail
    go_name_world WWx hWWx
    have hA : BlockIs WWx w.heap.size [.int .i64 c.mi, .int .i64 c.mo, .int .i64 c.sh, .int .i64 c.mb, .int .i64 c.mbk, .int .u64 c.secret, .int .i64 c.qg, .int .i64 c.qp, .int .i64 c.qw, .int .i64 c.qt, .int .i64 c.half, .int .i64 c.limit, .int .i64 c.banfor, .int .i64 c.base, .int .i64 c.cap, .int .i64 c.jitter] 70 := by subst hWWx; exact BlockIs.new w [.int .i64 c.mi, .int .i64 c.mo, .int .i64 c.sh, .int .i64 c.mb, .int .i64 c.mbk, .int .u64 c.secret, .int .i64 c.qg, .int .i64 c.qp, .int .i64 c.qw, .int .i64 c.qt, .int .i64 c.half, .int .i64 c.limit, .int .i64 c.banfor, .int .i64 c.base, .int .i64 c.cap, .int .i64 c.jitter] _
    have bWx : Below w.heap.size w WWx := by subst hWWx; (repeat (first | with_reducible assumption | with_reducible exact Below.refl _ _ | with_reducible refine Below.setCell ?_ (by first | omega | (simp; done) | (simp; omega)) _ | with_reducible refine Below.alloc ?_ (by first | omega | (simp; done) | (simp; omega)) _ | with_reducible refine Below.drew ?_ | (with_reducible refine Below.trans ?_ (Below.mono (by with_reducible assumption) (by first | omega | (simp; done) | (simp; omega)))) | (refine Below.trans ?_ (Below.mono (by assumption) (by first | omega | (simp; done) | (simp; omega))))))
    have zWx := bWx.size
    clear hWWx
    go_upto_region 5 with (first | (go_at_call 47; (with_reducible refine (H7.out _).mono ?_); rintro e wc3 ⟨rfl, bc3⟩; have hA3 := hA.below bc3; have bw3 := bWx.trans (bc3.mono zWx); have z3 := bw3.size; clear bc3) | (refine list_store_blk rfl 70 _ _ rfl (wc3.heap.size) _ _ 70 (BlockIs.newAt' _ _ _ (by simp)) rfl rfl (by kernel_rfl) rfl (by simp [Value.oneCell']) w.heap.size w (by (repeat (first | with_reducible assumption | with_reducible exact Below.refl _ _ | with_reducible refine Below.setCell ?_ (by first | omega | (simp; done) | (simp; omega)) _ | with_reducible refine Below.alloc ?_ (by first | omega | (simp; done) | (simp; omega)) _ | with_reducible refine Below.drew ?_ | (with_reducible refine Below.trans ?_ (Below.mono (by with_reducible assumption) (by first | omega | (simp; done) | (simp; omega)))) | (refine Below.trans ?_ (Below.mono (by assumption) (by first | omega | (simp; done) | (simp; omega))))))) (by omega) ?_; intro WWz hO hoth hsz bw1; have zA := hA3.lt; have hA4 := hoth w.heap.size _ _ (by omega) (hA3.alloc' _); clear hoth; have z4 := bw1.size) | (go_at_call 48; (with_reducible refine (H8.out _).mono ?_); rintro e wc4 ⟨rfl, bc4⟩; have hA5 := hA4.below bc4; have hO4 := hO.below bc4; have bw4 := bw1.trans (bc4.mono z4); have z5 := bw4.size; clear bc4) | (refine list_store_blk rfl 70 _ _ rfl (wc4.heap.size) _ _ 70 (BlockIs.newAt' _ _ _ (by simp)) rfl rfl (by kernel_rfl) rfl (by simp [Value.oneCell']) w.heap.size w (by (repeat (first | with_reducible assumption | with_reducible exact Below.refl _ _ | with_reducible refine Below.setCell ?_ (by first | omega | (simp; done) | (simp; omega)) _ | with_reducible refine Below.alloc ?_ (by first | omega | (simp; done) | (simp; omega)) _ | with_reducible refine Below.drew ?_ | (with_reducible refine Below.trans ?_ (Below.mono (by with_reducible assumption) (by first | omega | (simp; done) | (simp; omega)))) | (refine Below.trans ?_ (Below.mono (by assumption) (by first | omega | (simp; done) | (simp; omega))))))) (by omega) ?_; intro WWy hP hothy hszy bw2))
    have zO := hO4.lt
    have zA5 := hA5.lt
    have hO5 := hothy wc3.heap.size _ _ (by omega) (hO4.alloc' _)
    have hA6 := hothy w.heap.size _ _ (by omega) (hA5.alloc' _)
    clear hothy hO hO4 hA hA3 hA4 hA5
    have hQ1 := BlockIs.ext hA6
    have hQ2 := BlockIs.ext hO5
    have hQ3 := BlockIs.ext hP
    refine wp_region_ext (by kernel_rfl) (by kernel_rfl) ?_
    repeat (first | (refine wpQuiet_load_blk (by rfl) _ _ rfl _ _ _ hQ1 rfl Try.underlying70 (by kernel_rfl) ?_; go_simp) | (refine wpQuiet_load_blk (by rfl) _ _ rfl _ _ _ hQ2 rfl Try.underlying70 (by kernel_rfl) ?_; go_simp) | (refine wpQuiet_load_blk (by rfl) _ _ rfl _ _ _ hQ3 rfl Try.underlying70 (by kernel_rfl) ?_; go_simp) | go_big_quiet_step ((first | (go_at_call 51; with_reducible exact qe (H1.out _)) | (go_at_call 52; with_reducible exact qe (H2.out _)) | (go_at_call 49; with_reducible exact qe (H3.out _)) | (go_at_call 50; with_reducible exact qe (H4.out _)) | (go_at_call 53; with_reducible exact qe (H5.out _)) | (go_at_call 54; with_reducible exact qe (H6.out _)) | (go_at_call 46; with_reducible exact qe (HA.out _)))))
    refine wpQuiet_nil ?_
    first | (intro _ hw'; obtain ⟨x, hw''⟩ := hw'; subst hw'') | intro x
    go_wp2_with fail
    go_ret
    exact ⟨rfl, bw2.trans ((ext_below _ _).mono bw2.size)⟩
