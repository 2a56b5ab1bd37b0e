/- Texts put together: ShE. No condition. -/
import Derived.Test.YtppmjbnhghaffaaRzhlkbimlfj
import Derived.Test.YtppmjbnhghaffaaRyrlyyxzadd
namespace Go.Proofs.Ytppmjbnhghaffaa
open Go.RowKit Go.Lib
set_option linter.unusedSimpArgs false
set_option linter.unusedVariables false

theorem peIffS (a b : Pe) : a = b ↔ a.en.ad.v6 = b.en.ad.v6 ∧ (a.en.ad.hi : Int) = b.en.ad.hi ∧ (a.en.ad.lo : Int) = b.en.ad.lo ∧ a.en.port = b.en.port ∧ a.came = b.came ∧ a.since = b.since ∧ a.pts = b.pts ∧ a.at_ = b.at_ ∧ a.ping = b.ping ∧ a.work = b.work :=
  ⟨fun h => by subst h; exact ⟨rfl, rfl, rfl, rfl, rfl, rfl, rfl, rfl, rfl, rfl⟩, fun ⟨h1, h2, h3, h4, h5, h6, h7, h8, h9, h10⟩ => Pe.ext' (En.ext' (Ad.ext' h1 (by omega) (by omega)) h4) h5 h6 h7 h8 h9 h10⟩
theorem neqPeS (a b : Pe) (W : World) : (binOp .neq 66 (.agg #[.bool a.en.ad.v6, .int .u64 a.en.ad.hi, .int .u64 a.en.ad.lo, .int .i64 a.en.port, .bool a.came, .int .i64 a.since, .int .i64 a.pts, .int .i64 a.at_, .int .i64 a.ping, .int .i64 a.work]) (.agg #[.bool b.en.ad.v6, .int .u64 b.en.ad.hi, .int .u64 b.en.ad.lo, .int .i64 b.en.port, .bool b.came, .int .i64 b.since, .int .i64 b.pts, .int .i64 b.at_, .int .i64 b.ping, .int .i64 b.work])).run Try.prog W = .ok (.bool (!decide (a = b))) W := by
  go_simp
  by_cases h : a = b
  · have e := (peIffS a b).1 h
    simp [e, h]
  · have e := fun e => h ((peIffS a b).2 e)
    simp only [h]
    repeat' split
    all_goals simp_all
/-- where it must be written -/
def wrtL (was now : List Pe) : List Nat := (List.range now.length).filter fun i => decide (was[i]? ≠ now[i]?)
def wrtK (was now : List Pe) (k : Nat) : List Nat := (List.range k).filter fun i => decide (was[i]? ≠ now[i]?)
theorem wrtK_succ (was now : List Pe) (k : Nat) : wrtK was now (k + 1) = if was[k]? ≠ now[k]? then wrtK was now k ++ [k] else wrtK was now k := by
  unfold wrtK
  rw [List.range_succ, List.filter_append]
  by_cases h : was[k]? ≠ now[k]? <;> simp [h]
theorem wrtK_len (was now : List Pe) (k : Nat) : (wrtK was now k).length ≤ k := Nat.le_trans (List.length_filter_le _ _) (by simp)
end Go.Proofs.Ytppmjbnhghaffaa
