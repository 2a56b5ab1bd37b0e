/- Texts put together: MemM. No condition. -/
import Derived.Test.YtnplgagaoeckoaaRfnrrpvjbvm
import Derived.Test.YtnplgagaoeckoaaRaibcgwunlw
import Derived.Test.YtnplgagaoeckoaaRavnkiokfmz
import Derived.Test.YtnplgagaoeckoaaRsfzyxsxxql
import Derived.Test.YtnplgagaoeckoaaRenpzhhfhng
import Derived.Test.YtnplgagaoeckoaaRmtoroiflxt
namespace Go.Proofs.Ytnplgagaoeckoaa
open Go.RowKit

/-- what mem.Do wants of a memory -/
def DoOk (m : Mm) : Prop := m.locks.2.length = m.parts.2.length + 2 ∧ m.locks.2.length ≤ 1000 ∧ (∀ k ∈ m.locks.2, k.l.length ≤ 1000 ∧ k.l.Pairwise (· < ·)) ∧ (∀ s ∈ m.parts.2, s.l.length ≤ 100000) ∧ m.bans.2.length ≤ 1000 ∧ m.book.2.length ≤ 1000
theorem memDo_any (w0 : World → Prop) (hg : Grows w0) (B : Nat) (m : Mm) (o : Oq) (who : Int) (w : World) (hb0 : w0 w) (hB : B ≤ w.heap.size) (hm : ∀ W, w0 W → MmAt W m) (ho : OqAt w o) (hwho : 0 ≤ who ∧ who ≤ 100) (hd : DoOk m) (hob : o.bans.2.length ≤ 1000) (hok : o.book.2.length ≤ 1000) :
    Calls Try.prog 10 #[.agg #[.int .i64 m.inn, .int .i64 m.out, m.bans.1, m.book.1, m.parts.1, m.locks.1], .agg #[.int .i64 o.kind, .int .i64 o.lock, .int .i64 o.lk, .int .i64 o.ls, .int .i64 o.lt, .int .i64 o.old, .int .i64 o.new, .int .i64 o.vn, .bool o.pe.en.ad.v6, .int .u64 o.pe.en.ad.hi, .int .u64 o.pe.en.ad.lo, .int .i64 o.pe.en.port, .bool o.pe.came, .int .i64 o.pe.since, .int .i64 o.pe.pts, .int .i64 o.pe.at_, .int .i64 o.pe.ping, .int .i64 o.pe.work, o.bans.1, o.book.1, .bool o.mark], .int .i64 who] w (GivesDo w0 B w (doP m.pl o who)) := by
  obtain ⟨hll, hlen, hlk, hpt, hbn, hbk⟩ := hd
  have hsq : ∀ k ∈ m.pl.locks, k.2.Pairwise (· < ·) := fun k hk => by
    unfold Mm.pl at hk
    obtain ⟨q, hq, rfl⟩ := List.mem_map.1 hk
    exact (hlk q hq).2
  have hql : (lkOf m o.lock).l.length ≤ 1000 := by
    rcases getAt_mem (l := m.locks.2) (k := o.lock) (d := zeroLk) with e | e
    · exact (hlk _ e).1
    · unfold lkOf; rw [e]; exact Nat.zero_le _
  have hN : (shOf m o.ls).l.length ≤ 100000 := by
    rcases getAt_mem (l := m.parts.2) (k := o.ls) (d := ⟨0, .slice none 0 0, []⟩) with e | e
    · exact hpt _ e
    · unfold shOf; rw [e]; exact Nat.zero_le _
  cases hmay : mayP m.pl o with
  | false => exact memDo_no w0 hg B m o who w hb0 hB hm ho hmay
  | true =>
    by_cases h1 : o.kind = 1
    · exact memDo_1 w0 hg B m o who w hb0 hB hm ho hwho hmay h1 hll hlen
    by_cases h2 : o.kind = 2
    · exact memDo_2 w0 hg B m o who w hb0 hB hm ho hwho hmay h2 hll hlen hsq hql
    by_cases h3 : o.kind = 3
    · by_cases hb : (lkOf m o.lock).b = who + 1
      · exact memDo_3y w0 hg B m o who w hb0 hB hm ho hwho hmay h3 hll hlen hb
      · exact memDo_3n w0 hg B m o who w hb0 hB hm ho hwho hmay h3 hll hlen hb
    by_cases h4 : o.kind = 4
    · exact memDo_4 w0 hg B m o who w hb0 hB hm ho hwho hmay h4 hll hlen hql
    by_cases h5 : o.kind = 5
    · exact memDo_5 w0 hg B m o who w hb0 hB hm ho hmay h5 hbn hbk
    by_cases h6 : o.kind = 6
    · exact memDo_6 w0 hg B m o who w hb0 hB hm ho hmay h6 (by omega) hN hob hok
    by_cases h7 : o.kind = 7
    · exact memDo_7 w0 hg B m o who w hb0 hB hm ho hmay h7
    · exact memDo_8 w0 hg B m o who w hb0 hB hm ho hmay (by omega)
end Go.Proofs.Ytnplgagaoeckoaa
