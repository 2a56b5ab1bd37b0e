/- Texts put together: TabM. No condition. -/
import Derived.Test.YtppmjbnhghaffaaRcngjchkxll
import Derived.Test.YtppmjbnhghaffaaRbvpwljxjrq
import Derived.Test.YtppmjbnhghaffaaRjitwrymhrp
namespace Go.Proofs.Ytppmjbnhghaffaa
open Go.Lib Go.Sort

theorem anti_en (a b : En) : enCmp a b < 0 ↔ 0 < enCmp b a := by
  have h := cmp_en.neg a b
  omega
theorem sput_put (p : Pe) : ∀ l : List Pe, sput (ltOf fun a b : Pe => enCmp a.en b.en) p l = putT l p
  | [] => rfl
  | y :: r => by
    have ih := sput_put p r
    unfold sput
    by_cases h : 0 < enCmp y.en p.en
    · have h' : ltOf (fun a b : Pe => enCmp a.en b.en) p y = true := decide_eq_true ((anti_en _ _).2 h)
      rw [if_pos h']
      unfold putT putI insL
      rw [List.findIdx?_cons, if_pos (decide_eq_true h)]
      rfl
    · have h' : ¬ ltOf (fun a b : Pe => enCmp a.en b.en) p y = true := fun e => h ((anti_en _ _).1 (of_decide_eq_true e))
      rw [if_neg h', ih]
      unfold putT putI insL
      rw [List.findIdx?_cons, if_neg (by simpa using h)]
      cases r.findIdx? (fun x => decide (0 < enCmp x.en p.en)) <;> simp
theorem ssort_pst : ∀ (l a : List Pe), l.foldl (fun o x => sput (ltOf fun a b : Pe => enCmp a.en b.en) x o) a = l.foldl putT a
  | [], _ => rfl
  | x :: r, a => by rw [List.foldl_cons, List.foldl_cons, sput_put, ssort_pst r]
theorem wo_en : WO (ltOf fun a b : Pe => enCmp a.en b.en) := wo_of (cmp_on cmp_en Pe.en)
theorem srtL_is (l : List Pe) : srtL l = pstL l := by
  unfold srtL
  rw [stableA_is wo_en]
  exact ssort_pst l []
theorem srtL_len (l : List Pe) : (srtL l).length = l.length := by rw [srtL_is, pstL_len]
end Go.Proofs.Ytppmjbnhghaffaa
