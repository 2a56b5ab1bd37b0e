/- Texts put together: ShB, Ins, Tab, TabC, SiegeB. No condition. -/
import Derived.Test.YtppmjbnhghaffaaRjitwrymhrp
import Derived.Test.YtppmjbnhghaffaaRqlfqevcuhi
import Derived.Test.YtppmjbnhghaffaaRhjbbgjhkvr
import Derived.Test.YtppmjbnhghaffaaRhtuacnmkql
import Derived.Test.YtppmjbnhghaffaaRzzzehfclpq
import Derived.Test.YtppmjbnhghaffaaRmcavooviyn
import Derived.Test.YtppmjbnhghaffaaRithoscocnq
import Derived.Lib.Overlaps
import Derived.Lib.AppendZerosOnto
import Derived.Test.YtppmjbnhghaffaaRzruqltkkxo
import Derived.Test.YtppmjbnhghaffaaRpyeqxotouj
namespace Go.Proofs.Ytppmjbnhghaffaa
open Go.RowKit Go.Lib

def EnIn (w : World) (b o : Nat) (p : En) : Prop := w.cell? ⟨b, o, none⟩ = some (.bool p.ad.v6) ∧ w.cell? ⟨b, o + 1, none⟩ = some (.int .u64 p.ad.hi) ∧ w.cell? ⟨b, o + 2, none⟩ = some (.int .u64 p.ad.lo) ∧ w.cell? ⟨b, o + 3, none⟩ = some (.int .i64 p.port)
theorem EnIn.below {B : Nat} {w w' : World} {b o : Nat} {p : En} (h : EnIn w b o p) (hb : Below B w w') (hlt : b < B) : EnIn w' b o p := by
  obtain ⟨a0, a1, a2, a3⟩ := h
  exact ⟨keep hb hlt a0, keep hb hlt a1, keep hb hlt a2, keep hb hlt a3⟩
end Go.Proofs.Ytppmjbnhghaffaa
namespace Go.Proofs.Ytppmjbnhghaffaa
open Go.RowKit

def insL (l : List Pe) (i : Nat) (p : Pe) : List Pe := l.take i ++ p :: l.drop i
end Go.Proofs.Ytppmjbnhghaffaa
namespace Go.Proofs.Ytppmjbnhghaffaa
open Go.RowKit Go.Lib Go.Sort

set_option maxRecDepth 100000 in
set_option maxHeartbeats 4000000 in
theorem order_any (a b : Pe) (w : World) : Calls Try.prog 107 #[.agg #[.bool a.en.ad.v6, .int .u64 a.en.ad.hi, .int .u64 a.en.ad.lo, .int .i64 a.en.port, .bool a.came, .int .i64 a.since, .int .i64 a.pts, .int .i64 a.at_, .int .i64 a.ping, .int .i64 a.work], .agg #[.bool b.en.ad.v6, .int .u64 b.en.ad.hi, .int .u64 b.en.ad.lo, .int .i64 b.en.port, .bool b.came, .int .i64 b.since, .int .i64 b.pts, .int .i64 b.at_, .int .i64 b.ping, .int .i64 b.work]] w fun e w' => e = .returned (.int .i64 (enCmp a.en b.en)) ∧ Below w.heap.size w w' := by
  have HC := Lib.hid (fun w => enCmp_any a.en b.en w)
  generalize enCmp a.en b.en = y at *
  go_enter Try.func107, Try.ntmps107
  go_wp2_with (go_at_call 131; (with_reducible refine (HC.out _).mono ?_); rintro e w1 ⟨rfl, b1⟩)
  go_ret
  refine ⟨rfl, ?_⟩
  (repeat (first | with_reducible assumption | with_reducible exact Below.refl _ _ | with_reducible refine Below.setCell ?_ (by first | omega | (simp; done) | (simp; omega)) _ | with_reducible refine Below.alloc ?_ (by first | omega | (simp; done) | (simp; omega)) _ | with_reducible refine Below.drew ?_ | (with_reducible refine Below.trans ?_ (Below.mono (by with_reducible assumption) (by first | omega | (simp; done) | (simp; omega)))) | (refine Below.trans ?_ (Below.mono (by assumption) (by first | omega | (simp; done) | (simp; omega))))))
theorem order_cmp : CmpP Try.prog 107 #[] (fun a b => enCmp a.en b.en) := fun W x y => order_any x y W
/-- what the sort leaves -/
def srtL (l : List Pe) : List Pe := (stableA (ltOf fun a b : Pe => enCmp a.en b.en) l.toArray).toList
set_option maxRecDepth 100000 in
set_option maxHeartbeats 4000000 in
theorem sorted_any (v : Value) (l : List Pe) (w : World) (h : ReadsL peV 10 w v l) (hl : l.length ≤ 1000000) (hz : (srtL l).length = l.length) (hn : l ≠ []) :
    Calls Try.prog 62 #[v] w fun e w' => ∃ r, e = .returned r ∧ w'.ownsRow w.heap.size 66 10 r l.length ((srtL l).flatMap peV) ∧ Below w.heap.size w w' := by
  have HCl := Lib.hid (clonePe v l w h hl)
  have HS : Hid (∀ (g c : Nat) (W : World), W.ownsRow w.heap.size 66 10 (.slice (some ⟨g, 0, none⟩) l.length c) l.length (l.flatMap peV) → Below w.heap.size w W →
      Calls Try.prog 106 #[.slice (some ⟨g, 0, none⟩) l.length c, .func (.func 107) #[] #[]] W fun e w' => e = .returned (.tuple #[]) ∧ w'.ownsRow w.heap.size 66 10 (.slice (some ⟨g, 0, none⟩) l.length c) l.length ((srtL l).flatMap peV) ∧ Below w.heap.size w w') := fun g c W ho hb => by
    have hbg := (owns_blk2 ho).1
    have := sortStable_p (fun a b => enCmp a.en b.en) 107 #[] w.heap.size g c l.toArray w W (enters_of Try.func107 (by kernel_rfl) rfl) order_cmp ⟨hbg, by simpa using ho, hb⟩ (by simp; omega)
    rw [List.size_toArray] at this
    refine this.mono ?_
    rintro e w' ⟨rfl, _, o, b⟩
    have hz' : (stableA (ltOf fun a b : Pe => enCmp a.en b.en) l.toArray).size = l.length := by rw [← Array.length_toList]; exact hz
    rw [hz'] at o
    exact ⟨rfl, o, b⟩
  have HN := Lib.hid hn
  clear h hn hz
  go_enter Try.func62, Try.ntmps62
  go_wp2_with (first
    | (go_at_call 100; (with_reducible refine HCl.out.mono ?_); rintro e w1 ⟨r1, rfl, o1, b1, k1⟩; obtain ⟨g, c, rfl⟩ := k1 HN.out; have S1 := HS.out g c w1 o1 b1; clear o1 b1 k1)
    | (go_at_call 106; (with_reducible refine S1.mono ?_); rintro e w2 ⟨rfl, o2, b2⟩))
  go_ret
  exact ⟨_, rfl, o2, b2⟩
end Go.Proofs.Ytppmjbnhghaffaa
namespace Go.Proofs.Ytppmjbnhghaffaa
open Go.RowKit Go.Lib

theorem peIn_box {w : World} {B : Nat} {p : Pe} {T : TypeId} (h : BlockIs w B (peV p) T) : PeIn w B 0 p :=
  ⟨h.cell rfl, h.cell rfl, h.cell rfl, h.cell rfl, h.cell rfl, h.cell rfl, h.cell rfl, h.cell rfl, h.cell rfl, h.cell rfl⟩
end Go.Proofs.Ytppmjbnhghaffaa
namespace Go.Proofs.Ytppmjbnhghaffaa
open Go.RowKit

/-- how many may come, the quotas, the secret -/
structure St where
  most : Int
  q : Qu
  s : Nat
def St.fits (t : St) : Prop := (-9223372036854775808 ≤ t.most ∧ t.most ≤ 9223372036854775807) ∧ t.q.fits ∧ t.s < 18446744073709551616
theorem reads_blk {w : World} {B size : Nat} {us : List Value} {T : TypeId} (h : BlockIs w B us T) (hl : us.length = size) (hs : 0 < size) : Reads w (.slice (some ⟨B, 0, none⟩) 1 1) 1 size us :=
  ⟨by omega, by omega, Or.inr ⟨by omega, B, 0, 1, rfl, by omega, h.lt, fun j x hj => by rw [Nat.zero_add]; exact h.cell hj⟩⟩
end Go.Proofs.Ytppmjbnhghaffaa
