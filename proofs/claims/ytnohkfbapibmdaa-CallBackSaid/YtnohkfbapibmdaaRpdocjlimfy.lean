/- Texts put together: LawCallB. No condition. -/
import Derived.Test.YtnohkfbapibmdaaRyzowmgdwqx
import Derived.Test.YtnohkfbapibmdaaRmunymngomc
import Derived.Test.YtnohkfbapibmdaaRrpixjnwvon
import Derived.Test.YtnohkfbapibmdaaRyvzuhesolt
import Derived.Test.YtnohkfbapibmdaaRrngtlcpdmz
import Derived.Test.YtnohkfbapibmdaaRfjotczgztt
namespace Go.Proofs.Ytnohkfbapibmdaa
open Go.RowKit

theorem callBack_any (c : Cl) (hf : c.fits) (s : ByteArray) (w : World) (hc : Cpu w) : Calls Try.prog 13 #[.agg #[.int .i64 c.kind, .bool c.en.ad.v6, .int .u64 c.en.ad.hi, .int .u64 c.en.ad.lo, .int .i64 c.en.port, .bool c.nt.ad.v6, .int .u64 c.nt.ad.hi, .int .u64 c.nt.ad.lo, .int .i64 c.nt.bits, .int .i64 c.now, .int .i64 c.num, .bool c.good], .string s] w fun e w' => e = .returned (.bool true) ∧ Below w.heap.size w w' := by
  by_cases hl : 1000 < (s.size : Int)
  · cases hr : clRight c with
    | true => exact callBack_t c hf s w hc hr hl
    | false => exact callBack_x c hf s w hc hr hl
  · cases hk : (clParse s.data.toList).2 with
    | false =>
      cases hr : clRight c with
      | true => exact callBack_u c hf s w hc hr hl hk
      | false => exact callBack_y c hf s w hc hr hl hk
    | true =>
      cases hr : clRight c with
      | true => exact callBack_v c hf s w hc hr hl hk
      | false => exact callBack_z c hf s w hc hr hl hk
end Go.Proofs.Ytnohkfbapibmdaa
