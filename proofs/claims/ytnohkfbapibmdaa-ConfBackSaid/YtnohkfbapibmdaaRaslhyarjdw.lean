/- Texts put together: LawConf. No condition. -/
import Derived.Test.YtnohkfbapibmdaaRmxbkxauyzl
import Derived.Test.YtnohkfbapibmdaaRrhajlxzsyv
import Derived.Test.YtnohkfbapibmdaaRebceokvxyn
import Derived.Test.YtnohkfbapibmdaaRwzieffzequ
namespace Go.Proofs.Ytnohkfbapibmdaa
open Go.RowKit
set_option linter.unusedSimpArgs false
set_option linter.unusedVariables false

theorem eqlCf_self (a : Cf) (W : World) : (binOp .eql 70 (.agg #[.int .i64 a.mi, .int .i64 a.mo, .int .i64 a.sh, .int .i64 a.mb, .int .i64 a.mbk, .int .u64 a.secret, .int .i64 a.qg, .int .i64 a.qp, .int .i64 a.qw, .int .i64 a.qt, .int .i64 a.half, .int .i64 a.limit, .int .i64 a.banfor, .int .i64 a.base, .int .i64 a.cap, .int .i64 a.jitter]) (.agg #[.int .i64 a.mi, .int .i64 a.mo, .int .i64 a.sh, .int .i64 a.mb, .int .i64 a.mbk, .int .u64 a.secret, .int .i64 a.qg, .int .i64 a.qp, .int .i64 a.qw, .int .i64 a.qt, .int .i64 a.half, .int .i64 a.limit, .int .i64 a.banfor, .int .i64 a.base, .int .i64 a.cap, .int .i64 a.jitter])).run Try.prog W = .ok (.bool true) W := by
  go_simp
theorem neqCf_self (a : Cf) (W : World) : (binOp .neq 70 (.agg #[.int .i64 a.mi, .int .i64 a.mo, .int .i64 a.sh, .int .i64 a.mb, .int .i64 a.mbk, .int .u64 a.secret, .int .i64 a.qg, .int .i64 a.qp, .int .i64 a.qw, .int .i64 a.qt, .int .i64 a.half, .int .i64 a.limit, .int .i64 a.banfor, .int .i64 a.base, .int .i64 a.cap, .int .i64 a.jitter]) (.agg #[.int .i64 a.mi, .int .i64 a.mo, .int .i64 a.sh, .int .i64 a.mb, .int .i64 a.mbk, .int .u64 a.secret, .int .i64 a.qg, .int .i64 a.qp, .int .i64 a.qw, .int .i64 a.qt, .int .i64 a.half, .int .i64 a.limit, .int .i64 a.banfor, .int .i64 a.base, .int .i64 a.cap, .int .i64 a.jitter])).run Try.prog W = .ok (.bool false) W := by
  go_simp
def aw29 : List UInt8 := [105, 110, 32, 56, 10, 111, 117, 116, 32, 120, 10]
theorem aw29_parse : cfParse aw29 = (zeroCf, 2, 2) := by decide +kernel
theorem plain_ok : cfRight plainCf = true := by decide +kernel
theorem plain_len : (bs (cfText plainCf)).size ≤ 4000000000 := by decide +kernel
theorem bs_list (l : List UInt8) : (bs l).data.toList = l := by simp [bs]
set_option maxRecDepth 100000 in
set_option maxHeartbeats 8000000 in
theorem awake29_any (w : World) : Calls Try.prog 46 #[] w fun e w' => e = .returned (.bool true) ∧ Below w.heap.size w w' := by
  have h1 := fun w => cfPlain_any w
  have h2 := fun w => cfText_any plainCf w
  have h3 := fun w => cfParse_any (bs (cfText plainCf)) w plain_len
  have h4 := fun w => cfParse_any ⟨#[105, 110, 32, 56, 10, 111, 117, 116, 32, 120, 10]⟩ w (by decide +kernel)
  have r4 : cfParse (ByteArray.mk #[105, 110, 32, 56, 10, 111, 117, 116, 32, 120, 10]).data.toList = (zeroCf, 2, 2) := aw29_parse
  rw [bs_list, cfParse_text _ plain_ok] at h3
  rw [r4] at h4
  unfold GivesCf at h3 h4
  have q := fun W => eqlCf_self plainCf W
  generalize cfText plainCf = tx at h2 h3
  unfold plainCf zeroCf at *
  simp only [show ((1 : Nat) : Int) = 1 from rfl, show ((0 : Nat) : Int) = 0 from rfl] at h1 h2 h3 h4 q
  have H1 := Lib.hid h1; have H2 := Lib.hid h2; have H3 := Lib.hid h3; have H4 := Lib.hid h4
  clear h1 h2 h3 h4 r4
  go_enter Try.func46, Try.ntmps46
  go_upto_region 3 with (first | (go_at_call 51; (with_reducible refine (H1.out _).mono ?_); rintro e wc1 ⟨rfl, bc1⟩) | (go_at_call 53; (with_reducible refine (H2.out _).mono ?_); rintro e wc2 ⟨rfl, bc2⟩) | (go_at_call 47; (with_reducible refine (H3.out wc2).mono ?_); rintro e wc3 ⟨rfl, bc3⟩; have bw3 := bc1.trans ((bc2.trans (bc3.mono bc2.size)).mono bc1.size); have z3 := bw3.size; clear bc1 bc2 bc3) | (refine list_store_blk rfl 70 _ _ rfl (wc3.heap.size) _ _ 70 (BlockIs.newAt' _ _ _ (by simp)) rfl rfl (by kernel_rfl) rfl (by simp [Value.oneCell']) w.heap.size w (by (repeat (first | with_reducible assumption | with_reducible exact Below.refl _ _ | with_reducible refine Below.setCell ?_ (by first | omega | (simp; done) | (simp; omega)) _ | with_reducible refine Below.alloc ?_ (by first | omega | (simp; done) | (simp; omega)) _ | with_reducible refine Below.drew ?_ | (with_reducible refine Below.trans ?_ (Below.mono (by with_reducible assumption) (by first | omega | (simp; done) | (simp; omega)))) | (refine Below.trans ?_ (Below.mono (by assumption) (by first | omega | (simp; done) | (simp; omega))))))) (by omega) ?_; intro WWx hO hoth hsz bw1; clear hoth; have z4 := bw1.size) | (go_at_call 47; (with_reducible refine (H4.out _).mono ?_); rintro e wc4 ⟨rfl, bc4⟩; have hO4 := hO.below bc4; have bw4 := bw1.trans (bc4.mono z4); have z5 := bw4.size) | (refine list_store_blk rfl 70 _ _ rfl (wc4.heap.size) _ _ 70 (BlockIs.newAt' _ _ _ (by simp)) rfl rfl (by kernel_rfl) rfl (by simp [Value.oneCell']) w.heap.size w (by (repeat (first | with_reducible assumption | with_reducible exact Below.refl _ _ | with_reducible refine Below.setCell ?_ (by first | omega | (simp; done) | (simp; omega)) _ | with_reducible refine Below.alloc ?_ (by first | omega | (simp; done) | (simp; omega)) _ | with_reducible refine Below.drew ?_ | (with_reducible refine Below.trans ?_ (Below.mono (by with_reducible assumption) (by first | omega | (simp; done) | (simp; omega)))) | (refine Below.trans ?_ (Below.mono (by assumption) (by first | omega | (simp; done) | (simp; omega))))))) (by omega) ?_; intro WWy hP hothy hszy bw2))
  have zO := hO4.lt
  have hO5 := hothy wc3.heap.size _ _ (by omega) (hO4.alloc' _)
  clear hothy hP hO hO4
  have hQ := BlockIs.ext hO5
  have e2 := fun Y => (hQ _ ⟨Y, rfl⟩).cell (i := 2) rfl
  refine wp_region_ext (by kernel_rfl) (by kernel_rfl) ?_
  repeat (first | (refine wpQuiet_load_blk (by rfl) _ _ rfl _ _ _ hQ rfl Try.underlying70 (by kernel_rfl) ?_; go_simp) | go_big_quiet_step ((go_at_call 51; with_reducible exact qe (H1.out _))))
  refine wpQuiet_nil ?_
  first | (intro _ hw'; obtain ⟨x, hw''⟩ := hw'; subst hw'') | intro x
  go_wp2_with fail
  go_ret
  exact ⟨rfl, bw2.trans ((ext_below _ _).mono bw2.size)⟩
