/- Texts put together: OpV. No condition. -/
import Derived.Test.YtnplgagaoeckoaaRfnrrpvjbvm
import Derived.Test.YtnplgagaoeckoaaRwioubrlxuu
import Derived.Test.YtnplgagaoeckoaaRkoglyikkhn
namespace Go.Proofs.Ytnplgagaoeckoaa
open Go.ChangeShapes Go.WideShapes Go.ChangeAt Go.RowKit Go.Deep
def Ey.fits (e : Ey) : Prop := e.en.fits ∧ i64 e.state ∧ i64 e.fails ∧ i64 e.next
theorem opens_entry : Opens Try.prog 77 eyV Ey.fits :=
  (opens_of_fields Try.underlying77 (opensF_cons (n := 4) opens_end (by kernel_rfl) rfl (opensF_cons (n := 1) (opens_i64 Try.underlying3) (by kernel_rfl) rfl (opensF_cons (n := 1) (opens_i64 Try.underlying3) (by kernel_rfl) rfl (opensF_cons (n := 1) (opens_i64 Try.underlying3) (by kernel_rfl) rfl opensF_nil)))) (by kernel_rfl)).map
    fun ⟨e, s, f, n, _⟩ ⟨h1, h2, h3, h4, _⟩ => ⟨⟨e, s, f, n⟩, ⟨h1, h2, h3, h4⟩, rfl⟩
structure Lo where
  k : Int
  s : Int
  t : Int
def loV (l : Lo) : List Value := [.int .i64 l.k, .int .i64 l.s, .int .i64 l.t]
theorem opens_loc : Opens Try.prog 42 loV (fun l => i64 l.k ∧ i64 l.s ∧ i64 l.t) :=
  (opens_of_fields Try.underlying42 (opensF_cons (n := 1) (opens_i64 Try.underlying3) (by kernel_rfl) rfl (opensF_cons (n := 1) (opens_i64 Try.underlying3) (by kernel_rfl) rfl (opensF_cons (n := 1) (opens_i64 Try.underlying3) (by kernel_rfl) rfl opensF_nil))) (by kernel_rfl)).map
    fun ⟨k, s, t, _⟩ ⟨h1, h2, h3, _⟩ => ⟨⟨k, s, t⟩, ⟨h1, h2, h3⟩, rfl⟩
structure Va where
  n : Int
  pe : Pe
  bans : Value × List Ba
  book : Value × List Ey
def vaV (v : Va) : List Value := [.int .i64 v.n, .bool v.pe.en.ad.v6, .int .u64 v.pe.en.ad.hi, .int .u64 v.pe.en.ad.lo, .int .i64 v.pe.en.port, .bool v.pe.came, .int .i64 v.pe.since, .int .i64 v.pe.pts, .int .i64 v.pe.at_, .int .i64 v.pe.ping, .int .i64 v.pe.work, v.bans.1, v.book.1]
def Va.good (w : World) (v : Va) : Prop := i64 v.n ∧ v.pe.fits ∧ (ReadsL baV 5 w v.bans.1 v.bans.2 ∧ ∀ x ∈ v.bans.2, x.fits) ∧ (ReadsL eyV 7 w v.book.1 v.book.2 ∧ ∀ x ∈ v.book.2, x.fits)
theorem opens_value : OpensW Try.prog 52 vaV Va.good :=
  (opensW_of_fields Try.underlying52 (opensWF_cons (n := 1) (opens_i64 Try.underlying3).w (by kernel_rfl) rfl (opensWF_cons (n := 10) opens_peer.w (by kernel_rfl) rfl (opensWF_cons (n := 1) (opensW_slice opens_ban.w baV_len (by omega) Try.underlying31 (by kernel_rfl)) (by kernel_rfl) rfl
    (opensWF_cons (n := 1) (opensW_slice opens_entry.w eyV_len (by omega) Try.underlying32 (by kernel_rfl)) (by kernel_rfl) rfl opensWF_nil)))) (by kernel_rfl)).map
    fun w ⟨n, p, b, y, _⟩ ⟨h1, h2, h3, h4, _⟩ => ⟨⟨n, p, (b.1, b.2), (y.1, y.2)⟩, ⟨h1, h2, ⟨h3.1, h3.2⟩, ⟨h4.1, h4.2⟩⟩, rfl⟩
def oqV (o : Oq) : List Value := [.int .i64 o.kind, .int .i64 o.lock, .int .i64 o.lk, .int .i64 o.ls, .int .i64 o.lt, .int .i64 o.old, .int .i64 o.new, .int .i64 o.vn, .bool o.pe.en.ad.v6, .int .u64 o.pe.en.ad.hi, .int .u64 o.pe.en.ad.lo, .int .i64 o.pe.en.port, .bool o.pe.came, .int .i64 o.pe.since, .int .i64 o.pe.pts, .int .i64 o.pe.at_, .int .i64 o.pe.ping, .int .i64 o.pe.work, o.bans.1, o.book.1, .bool o.mark]
theorem opens_op : OpensW Try.prog 54 oqV Oq.good :=
  (opensW_of_fields Try.underlying54 (opensWF_cons (n := 1) (opens_i64 Try.underlying3).w (by kernel_rfl) rfl (opensWF_cons (n := 1) (opens_i64 Try.underlying3).w (by kernel_rfl) rfl (opensWF_cons (n := 3) opens_loc.w (by kernel_rfl) rfl
    (opensWF_cons (n := 1) (opens_i64 Try.underlying3).w (by kernel_rfl) rfl (opensWF_cons (n := 1) (opens_i64 Try.underlying3).w (by kernel_rfl) rfl (opensWF_cons (n := 13) opens_value (by kernel_rfl) rfl (opensWF_cons (n := 1) (opens_bool Try.underlying4).w (by kernel_rfl) rfl opensWF_nil))))))) (by kernel_rfl)).map
    fun w ⟨k, l, ⟨lk, ls, lt⟩, old, new, ⟨vn, pe, bans, book⟩, m, _⟩ ⟨h1, h2, ⟨h3, h4, h5⟩, h6, h7, ⟨h8, h9, h10, h11⟩, _, _⟩ => ⟨⟨k, l, lk, ls, lt, old, new, vn, pe, bans, book, m⟩, ⟨h1, h2, h3, h4, h5, h6, h7, h8, h9, h10, ⟨h11.1, fun x hx => (h11.2 x hx).2.1⟩⟩, rfl⟩
end Go.Proofs.Ytnplgagaoeckoaa
