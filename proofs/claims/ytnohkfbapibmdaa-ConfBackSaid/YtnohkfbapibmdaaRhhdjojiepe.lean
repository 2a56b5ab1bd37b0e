/- Texts put together: Conf. No condition. -/
import Derived.Test.YtnohkfbapibmdaaRmcubibcrhs
import Derived.Test.YtnohkfbapibmdaaRbokyrubeju
import Derived.Test.YtnohkfbapibmdaaRhwbilokfsh
import Derived.Test.YtnohkfbapibmdaaRrhajlxzsyv
import Derived.Lib.ItoaWalk
import Derived.Handy
import Derived.Laws.Bits64b
namespace Go.Proofs.Ytnohkfbapibmdaa
open Go.RowKit

def cfArr (c : Cf) : List Value := [.string ⟨#[105, 110]⟩, .int .i64 c.mi, .int .i64 0, .int .i64 65535, .string ⟨#[111, 117, 116]⟩, .int .i64 c.mo, .int .i64 0, .int .i64 65535, .string ⟨#[115, 104, 97, 114, 100, 115]⟩, .int .i64 c.sh, .int .i64 1, .int .i64 8, .string ⟨#[98, 97, 110, 115]⟩, .int .i64 c.mb, .int .i64 0, .int .i64 1024, .string ⟨#[98, 111, 111, 107]⟩, .int .i64 c.mbk, .int .i64 0, .int .i64 1024, .string ⟨#[115, 101, 99, 114, 101, 116]⟩, .int .i64 (c.secret : Nat), .int .i64 0, .int .i64 9223372036854775807, .string ⟨#[103, 114, 111, 117, 112]⟩, .int .i64 c.qg, .int .i64 0, .int .i64 64, .string ⟨#[112, 105, 110, 103]⟩, .int .i64 c.qp, .int .i64 0, .int .i64 64, .string ⟨#[119, 111, 114, 107]⟩, .int .i64 c.qw, .int .i64 0, .int .i64 64, .string ⟨#[116, 105, 109, 101]⟩, .int .i64 c.qt, .int .i64 0, .int .i64 64, .string ⟨#[104, 97, 108, 102]⟩, .int .i64 c.half, .int .i64 1, .int .i64 1073741824, .string ⟨#[108, 105, 109, 105, 116]⟩, .int .i64 c.limit, .int .i64 1, .int .i64 10000, .string ⟨#[98, 97, 110, 102, 111, 114]⟩, .int .i64 c.banfor, .int .i64 1, .int .i64 1073741824, .string ⟨#[98, 97, 115, 101]⟩, .int .i64 c.base, .int .i64 1, .int .i64 1073741824, .string ⟨#[99, 97, 112]⟩, .int .i64 c.cap, .int .i64 c.base, .int .i64 1073741824, .string ⟨#[106, 105, 116, 116, 101, 114]⟩, .int .i64 c.jitter, .int .i64 0, .int .i64 1073741824]
theorem land_63 (n : Nat) (h : n ≤ 9223372036854775807) : n &&& 9223372036854775807 = n := by
  have := Nat.and_two_pow_sub_one_eq_mod n 63
  simp only [show 2 ^ 63 - 1 = 9223372036854775807 from rfl] at this
  rw [this]; exact Nat.mod_eq_of_lt (by omega)
theorem secret_and (n : Nat) (h : n ≤ 9223372036854775807) : wrap64 (bits .and .u64 (n : Int) 9223372036854775807) = n := by
  have e : bits .and .u64 (n : Int) 9223372036854775807 = n := by
    have := bits_and_u64_nat n 9223372036854775807 (by omega) (by omega)
    rw [land_63 n h] at this; exact this
  rw [e]; exact IntWalk.wrap64_in _ ⟨by omega, by omega⟩
set_option maxRecDepth 100000 in
set_option maxHeartbeats 16000000 in
theorem cfAll_any (c : Cf) (hs : c.secret ≤ 9223372036854775807) (w : World) : Calls Try.prog 101 #[.agg #[.int .i64 c.mi, .int .i64 c.mo, .int .i64 c.sh, .int .i64 c.mb, .int .i64 c.mbk, .int .u64 c.secret, .int .i64 c.qg, .int .i64 c.qp, .int .i64 c.qw, .int .i64 c.qt, .int .i64 c.half, .int .i64 c.limit, .int .i64 c.banfor, .int .i64 c.base, .int .i64 c.cap, .int .i64 c.jitter]] w fun r w' => r = .returned (.agg (cfArr c).toArray) ∧ Below w.heap.size w w' := by
  have hl := secret_and c.secret hs
  go_enter Try.func101, Try.ntmps101
  go_wp2_with (refine list_store_blk rfl 122 _ _ rfl (w.heap.size + 1) _ _ 122 (BlockIs.newAt' _ _ _ (by simp)) rfl rfl (by kernel_rfl) rfl (by simp [Value.oneCell']) w.heap.size w (by (repeat (first | with_reducible assumption | with_reducible exact Below.refl _ _ | with_reducible refine Below.setCell ?_ (by first | omega | (simp; done) | (simp; omega)) _ | with_reducible refine Below.alloc ?_ (by first | omega | (simp; done) | (simp; omega)) _ | with_reducible refine Below.drew ?_ | (with_reducible refine Below.trans ?_ (Below.mono (by with_reducible assumption) (by first | omega | (simp; done) | (simp; omega)))) | (refine Below.trans ?_ (Below.mono (by assumption) (by first | omega | (simp; done) | (simp; omega))))))) (by omega) ?_; intro w1 hO hoth hsz bw1)
  exact bodyPost_ret (v := .agg (cfArr c).toArray) (results_cell rfl rfl (hO.load Try.underlying122 (by kernel_rfl))) rfl ⟨rfl, bw1⟩
end Go.Proofs.Ytnohkfbapibmdaa
