/- Are two operations one: the same one is. -/
import Derived.Test.YtnohkfbapibmdaaCode
import Derived.Test.YtnohkfbapibmdaaQ3316e9xhhchm
import Derived.Test.YtnohkfbapibmdaaQc03ddbrmyxtq
import Derived.Test.YtnohkfbapibmdaaBlk
import Derived.Test.YtnohkfbapibmdaaPeV
import Derived.Test.YtnohkfbapibmdaaBaV
namespace Go.Proofs.Ytnohkfbapibmdaa
open Go.RowKit

def eyV (e : Ey) : List Value := [.bool e.en.ad.v6, .int .u64 e.en.ad.hi, .int .u64 e.en.ad.lo, .int .i64 e.en.port, .int .i64 e.state, .int .i64 e.fails, .int .i64 e.next]
theorem eyV_len (e : Ey) : (eyV e).length = 7 := rfl
theorem baV_len (b : Ba) : (baV b).length = 5 := rfl
theorem eyIff (a b : Ey) : a = b ↔ a.en.ad.v6 = b.en.ad.v6 ∧ (a.en.ad.hi : Int) = b.en.ad.hi ∧ (a.en.ad.lo : Int) = b.en.ad.lo ∧ a.en.port = b.en.port ∧ a.state = b.state ∧ a.fails = b.fails ∧ a.next = b.next := ⟨fun h => by subst h; exact ⟨rfl, rfl, rfl, rfl, rfl, rfl, rfl⟩, fun ⟨h1, h2, h3, h4, h5, h6, h7⟩ => by
  obtain ⟨⟨⟨v, hi, lo⟩, p⟩, s, f, n⟩ := a; obtain ⟨⟨⟨v2, hi2, lo2⟩, p2⟩, s2, f2, n2⟩ := b; simp only at *; subst h1 h4 h5 h6 h7; have := Int.ofNat.inj h2; have := Int.ofNat.inj h3; subst_vars; rfl⟩
theorem neqEy_self (a : Ey) (W : World) : (binOp .neq 205 (.agg #[.bool a.en.ad.v6, .int .u64 a.en.ad.hi, .int .u64 a.en.ad.lo, .int .i64 a.en.port, .int .i64 a.state, .int .i64 a.fails, .int .i64 a.next]) (.agg #[.bool a.en.ad.v6, .int .u64 a.en.ad.hi, .int .u64 a.en.ad.lo, .int .i64 a.en.port, .int .i64 a.state, .int .i64 a.fails, .int .i64 a.next])).run Try.prog W = .ok (.bool false) W := by
  go_simp
theorem neqBa_self (a : Ba) (W : World) : (binOp .neq 82 (.agg #[.bool a.nt.ad.v6, .int .u64 a.nt.ad.hi, .int .u64 a.nt.ad.lo, .int .i64 a.nt.bits, .int .i64 a.till]) (.agg #[.bool a.nt.ad.v6, .int .u64 a.nt.ad.hi, .int .u64 a.nt.ad.lo, .int .i64 a.nt.bits, .int .i64 a.till])).run Try.prog W = .ok (.bool false) W := by
  go_simp
theorem eqlPe_self (a : Pe) (W : World) : (binOp .eql 41 (.agg #[.bool a.en.ad.v6, .int .u64 a.en.ad.hi, .int .u64 a.en.ad.lo, .int .i64 a.en.port, .bool a.came, .int .i64 a.since, .int .i64 a.pts, .int .i64 a.at_, .int .i64 a.ping, .int .i64 a.work]) (.agg #[.bool a.en.ad.v6, .int .u64 a.en.ad.hi, .int .u64 a.en.ad.lo, .int .i64 a.en.port, .bool a.came, .int .i64 a.since, .int .i64 a.pts, .int .i64 a.at_, .int .i64 a.ping, .int .i64 a.work])).run Try.prog W = .ok (.bool true) W := by
  go_simp
theorem eqlLoc_self (k s t : Int) (W : World) : (binOp .eql 54 (.agg #[.int .i64 k, .int .i64 s, .int .i64 t]) (.agg #[.int .i64 k, .int .i64 s, .int .i64 t])).run Try.prog W = .ok (.bool true) W := by
  go_simp
/-- five cells of a ban in a row -/
def baIn (w : World) (b o : Nat) (x : Ba) : Prop := w.cell? ⟨b, o, none⟩ = some (.bool x.nt.ad.v6) ∧ w.cell? ⟨b, o + 1, none⟩ = some (.int .u64 x.nt.ad.hi) ∧ w.cell? ⟨b, o + 2, none⟩ = some (.int .u64 x.nt.ad.lo) ∧ w.cell? ⟨b, o + 3, none⟩ = some (.int .i64 x.nt.bits) ∧ w.cell? ⟨b, o + 4, none⟩ = some (.int .i64 x.till)
theorem ba_open {w : World} {v : Value} {l : List Ba} (h : ReadsL baV 5 w v l) : l.length ≤ 9223372036854775807 ∧ ∃ (a : Option Addr) (c : Nat), v = .slice a l.length c ∧ (0 < l.length → ∃ b o, a = some ⟨b, o, none⟩ ∧ l.length ≤ c ∧ b < w.heap.size ∧
      ∀ (i : Nat) (p : Ba), l[i]? = some p → baIn w b (o + i * 5) p) := by
  obtain ⟨h1, a, c, h2, h3⟩ := h.open baV_len (by omega)
  refine ⟨h1, a, c, h2, fun hp => ?_⟩
  obtain ⟨b, o, h4, h5, h6, h7⟩ := h3 hp
  refine ⟨b, o, h4, h5, h6, fun i x hi => ⟨?_, ?_, ?_, ?_, ?_⟩⟩
  · have := h7 i x hi 0 _ rfl; simpa [Nat.add_assoc] using this
  · have := h7 i x hi 1 _ rfl; simpa [Nat.add_assoc] using this
  · have := h7 i x hi 2 _ rfl; simpa [Nat.add_assoc] using this
  · have := h7 i x hi 3 _ rfl; simpa [Nat.add_assoc] using this
  · have := h7 i x hi 4 _ rfl; simpa [Nat.add_assoc] using this
theorem baIn.below {B : Nat} {w w' : World} {b o : Nat} {p : Ba} (h : baIn w b o p) (hb : Below B w w') (hlt : b < B) : baIn w' b o p := by
  obtain ⟨a0, a1, a2, a3, a4⟩ := h
  exact ⟨keep hb hlt a0, keep hb hlt a1, keep hb hlt a2, keep hb hlt a3, keep hb hlt a4⟩
/-- seven cells of an entry in a row -/
def eyIn (w : World) (b o : Nat) (x : Ey) : Prop := w.cell? ⟨b, o, none⟩ = some (.bool x.en.ad.v6) ∧ w.cell? ⟨b, o + 1, none⟩ = some (.int .u64 x.en.ad.hi) ∧ w.cell? ⟨b, o + 2, none⟩ = some (.int .u64 x.en.ad.lo) ∧ w.cell? ⟨b, o + 3, none⟩ = some (.int .i64 x.en.port) ∧ w.cell? ⟨b, o + 4, none⟩ = some (.int .i64 x.state) ∧ w.cell? ⟨b, o + 5, none⟩ = some (.int .i64 x.fails) ∧ w.cell? ⟨b, o + 6, none⟩ = some (.int .i64 x.next)
theorem ey_open {w : World} {v : Value} {l : List Ey} (h : ReadsL eyV 7 w v l) : l.length ≤ 9223372036854775807 ∧ ∃ (a : Option Addr) (c : Nat), v = .slice a l.length c ∧ (0 < l.length → ∃ b o, a = some ⟨b, o, none⟩ ∧ l.length ≤ c ∧ b < w.heap.size ∧
      ∀ (i : Nat) (p : Ey), l[i]? = some p → eyIn w b (o + i * 7) p) := by
  obtain ⟨h1, a, c, h2, h3⟩ := h.open eyV_len (by omega)
  refine ⟨h1, a, c, h2, fun hp => ?_⟩
  obtain ⟨b, o, h4, h5, h6, h7⟩ := h3 hp
  refine ⟨b, o, h4, h5, h6, fun i x hi => ⟨?_, ?_, ?_, ?_, ?_, ?_, ?_⟩⟩
  · have := h7 i x hi 0 _ rfl; simpa [Nat.add_assoc] using this
  · have := h7 i x hi 1 _ rfl; simpa [Nat.add_assoc] using this
  · have := h7 i x hi 2 _ rfl; simpa [Nat.add_assoc] using this
  · have := h7 i x hi 3 _ rfl; simpa [Nat.add_assoc] using this
  · have := h7 i x hi 4 _ rfl; simpa [Nat.add_assoc] using this
  · have := h7 i x hi 5 _ rfl; simpa [Nat.add_assoc] using this
  · have := h7 i x hi 6 _ rfl; simpa [Nat.add_assoc] using this
theorem eyIn.below {B : Nat} {w w' : World} {b o : Nat} {p : Ey} (h : eyIn w b o p) (hb : Below B w w') (hlt : b < B) : eyIn w' b o p := by
  obtain ⟨a0, a1, a2, a3, a4, a5, a6⟩ := h
  exact ⟨keep hb hlt a0, keep hb hlt a1, keep hb hlt a2, keep hb hlt a3, keep hb hlt a4, keep hb hlt a5, keep hb hlt a6⟩
set_option maxRecDepth 100000 in
set_option maxHeartbeats 4000000 in
theorem bans_self (v : Value) (l : List Ba) (w : World) (hv : ReadsL baV 5 w v l) : Calls Try.prog 140 #[v, v] w fun e w' => e = .returned (.bool true) ∧ Below w.heap.size w w' := by
  obtain ⟨hn, a, cap, rfl, ho⟩ := ba_open hv
  clear hv
  rcases Nat.eq_zero_or_pos l.length with h0 | hp
  · rw [h0]
    clear ho h0
    go_enter Try.func140, Try.ntmps140
    go_wp2_with fail
    refine wp_loop_rounds 1 ?_; rw [rounds_succ]
    go_wp2_with fail
    go_ret
    exact ⟨rfl, Below.refl _ _⟩
  · obtain ⟨b, o, rfl, hc, hlt, hx⟩ := ho hp
    have HX := Lib.hid hx
    clear ho hx
    go_enter Try.func140, Try.ntmps140
    go_wp2_with fail
    go_loopw [5] (fun i wr => ∃ (k : Nat), k ≤ l.length ∧ i = .int .i64 k ∧ Below w.heap.size w wr) (fun i _ => l.length - (intOf i).toNat)
    case atStart => exact ⟨0, Nat.zero_le _, rfl, Below.refl _ _⟩
    case round =>
      obtain ⟨k, hk, rfl, hb⟩ := hrel
      by_cases hk2 : k < l.length
      · obtain ⟨p, hp'⟩ : ∃ p, l[k]? = some p := ⟨_, List.getElem?_eq_getElem hk2⟩
        obtain ⟨c0, c1, c2, c3, c4⟩ := (HX.out k p hp').below hb hlt
        clear hp'
        have q1 : (k : Int) < (l.length : Int) := by omega
        have q2 : (0 : Int) ≤ (k : Int) := by omega
        have qq := fun W => neqBa_self p W
        go_wp2_with fail
        go_quiet (fail)
        go_wp2_with fail
        go_roundw
        case rel => exact ⟨k + 1, by omega, by go_num, below_drewN hb _⟩
        case measure => simp [intOf]; omega
      · obtain rfl : k = l.length := by omega
        go_wp2_with fail
        go_ret
        exact ⟨rfl, hb⟩
set_option maxRecDepth 100000 in
set_option maxHeartbeats 4000000 in
theorem book_self (v : Value) (l : List Ey) (w : World) (hv : ReadsL eyV 7 w v l) : Calls Try.prog 141 #[v, v] w fun e w' => e = .returned (.bool true) ∧ Below w.heap.size w w' := by
  obtain ⟨hn, a, cap, rfl, ho⟩ := ey_open hv
  clear hv
  rcases Nat.eq_zero_or_pos l.length with h0 | hp
  · rw [h0]
    clear ho h0
    go_enter Try.func141, Try.ntmps141
    go_wp2_with fail
    refine wp_loop_rounds 1 ?_; rw [rounds_succ]
    go_wp2_with fail
    go_ret
    exact ⟨rfl, Below.refl _ _⟩
  · obtain ⟨b, o, rfl, hc, hlt, hx⟩ := ho hp
    have HX := Lib.hid hx
    clear ho hx
    go_enter Try.func141, Try.ntmps141
    go_wp2_with fail
    go_loopw [5] (fun i wr => ∃ (k : Nat), k ≤ l.length ∧ i = .int .i64 k ∧ Below w.heap.size w wr) (fun i _ => l.length - (intOf i).toNat)
    case atStart => exact ⟨0, Nat.zero_le _, rfl, Below.refl _ _⟩
    case round =>
      obtain ⟨k, hk, rfl, hb⟩ := hrel
      by_cases hk2 : k < l.length
      · obtain ⟨p, hp'⟩ : ∃ p, l[k]? = some p := ⟨_, List.getElem?_eq_getElem hk2⟩
        obtain ⟨c0, c1, c2, c3, c4, c5, c6⟩ := (HX.out k p hp').below hb hlt
        clear hp'
        have q1 : (k : Int) < (l.length : Int) := by omega
        have q2 : (0 : Int) ≤ (k : Int) := by omega
        have qq := fun W => neqEy_self p W
        go_wp2_with fail
        go_quiet (fail)
        go_wp2_with fail
        go_roundw
        case rel => exact ⟨k + 1, by omega, by go_num, below_drewN hb _⟩
        case measure => simp [intOf]; omega
      · obtain rfl : k = l.length := by omega
        go_wp2_with fail
        go_ret
        exact ⟨rfl, hb⟩
end Go.Proofs.Ytnohkfbapibmdaa
