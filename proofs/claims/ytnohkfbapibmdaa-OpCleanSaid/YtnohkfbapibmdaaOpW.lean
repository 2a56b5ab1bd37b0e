/- The laws of operations. -/
import Derived.Test.YtnohkfbapibmdaaOpF
import Derived.Test.YtnohkfbapibmdaaOpY
import Derived.Test.YtnohkfbapibmdaaOpS
import Derived.Test.YtnohkfbapibmdaaBlkQ
namespace Go.Proofs.Ytnohkfbapibmdaa
open Go.RowKit
set_option linter.unusedSimpArgs false
set_option linter.unusedVariables false

def Oq.good (w : World) (o : Oq) : Prop := i64 o.kind ∧ i64 o.lock ∧ i64 o.lk ∧ i64 o.ls ∧ i64 o.lt ∧ i64 o.old ∧ i64 o.new ∧ i64 o.vn ∧ o.pe.fits ∧ (ReadsL baV 5 w o.bans.1 o.bans.2 ∧ ∀ x ∈ o.bans.2, x.fits) ∧ (ReadsL eyV 7 w o.book.1 o.book.2 ∧ ∀ x ∈ o.book.2, i64 x.state)
/-- the shape of an operation's slices -/
def Oq.shaped (o : Oq) : Prop := (∃ a c, o.bans.1 = .slice a o.bans.2.length c) ∧ ∃ a c, o.book.1 = .slice a o.book.2.length c
theorem k8 (k : Int) : k = 1 ∨ k = 2 ∨ k = 3 ∨ k = 4 ∨ k = 5 ∨ k = 6 ∨ k = 7 ∨ k = 8 ∨ (k < 1 ∨ 8 < k) := by omega
theorem clean_out {o : Oq} (h : o.kind < 1 ∨ 8 < o.kind) : opClean o = zeroOq := by unfold opClean; rw [if_pos h]
theorem text_out {o : Oq} (h : o.kind < 1 ∨ 8 < o.kind) : opText o = [] := by unfold opText; rw [if_pos h]
theorem cB_slice {lk : Int} {a : Option Addr} {n c : Nat} {l : List Ba} : (cB lk noBans (Value.slice a n c, l)).1 = .slice (cB lk none a) (cB lk 0 n) (cB lk 0 c) := by unfold cB noBans; split <;> rfl
theorem cY_slice {lk : Int} {a : Option Addr} {n c : Nat} {l : List Ey} : (cY lk noBook (Value.slice a n c, l)).1 = .slice (cY lk none a) (cY lk 0 n) (cY lk 0 c) := by unfold cY noBook; split <;> rfl
theorem opClean_all (o : Oq) (hs : o.shaped) (w : World) : Calls Try.prog 42 #[.agg #[.int .i64 o.kind, .int .i64 o.lock, .int .i64 o.lk, .int .i64 o.ls, .int .i64 o.lt, .int .i64 o.old, .int .i64 o.new, .int .i64 o.vn, .bool o.pe.en.ad.v6, .int .u64 o.pe.en.ad.hi, .int .u64 o.pe.en.ad.lo, .int .i64 o.pe.en.port, .bool o.pe.came, .int .i64 o.pe.since, .int .i64 o.pe.pts, .int .i64 o.pe.at_, .int .i64 o.pe.ping, .int .i64 o.pe.work, o.bans.1, o.book.1, .bool o.mark]] w fun r w' => r = .returned (.agg #[.int .i64 (opClean o).kind, .int .i64 (opClean o).lock, .int .i64 (opClean o).lk, .int .i64 (opClean o).ls, .int .i64 (opClean o).lt, .int .i64 (opClean o).old, .int .i64 (opClean o).new, .int .i64 (opClean o).vn, .bool (opClean o).pe.en.ad.v6, .int .u64 (opClean o).pe.en.ad.hi, .int .u64 (opClean o).pe.en.ad.lo, .int .i64 (opClean o).pe.en.port, .bool (opClean o).pe.came, .int .i64 (opClean o).pe.since, .int .i64 (opClean o).pe.pts, .int .i64 (opClean o).pe.at_, .int .i64 (opClean o).pe.ping, .int .i64 (opClean o).pe.work, (opClean o).bans.1, (opClean o).book.1, .bool (opClean o).mark]) ∧ Below w.heap.size w w' := by
  obtain ⟨kind, lock, lk, ls, lt, old, new, vn, pe, bans, book, mark⟩ := o
  obtain ⟨bv, bl⟩ := bans
  obtain ⟨yv, yl⟩ := book
  obtain ⟨⟨ba, bc, hb⟩, ⟨ya, yc, hy⟩⟩ := hs
  simp only at hb hy
  subst hb hy
  rcases k8 kind with rfl | rfl | rfl | rfl | rfl | rfl | rfl | rfl | h
  · exact opClean1_any lock lk ls lt old new vn pe ba ya bl.length bc yl.length yc mark w
  · exact opClean2_any lock lk ls lt old new vn pe ba ya bl.length bc yl.length yc mark w
  · exact opClean3_any lock lk ls lt old new vn pe ba ya bl.length bc yl.length yc mark w
  · exact opClean4_any lock lk ls lt old new vn pe ba ya bl.length bc yl.length yc mark w
  · exact opClean5_any lock lk ls lt old new vn pe ba ya bl.length bc yl.length yc mark w
  · have h6 := opClean6_any lock lk ls lt old new vn pe ba ya bl.length bc yl.length yc mark w
    rw [← @cB_slice lk ba bl.length bc bl, ← @cY_slice lk ya yl.length yc yl] at h6
    exact h6
  · exact opClean7_any lock lk ls lt old new vn pe ba ya bl.length bc yl.length yc mark w
  · exact opClean8_any lock lk ls lt old new vn pe ba ya bl.length bc yl.length yc mark w
  · rw [clean_out h]
    exact opClean0_any kind lock lk ls lt old new vn pe ba ya bl.length bc yl.length yc mark h w
theorem refClean_all (o : Oq) (hs : o.shaped) (w : World) : Calls Try.prog 43 #[.agg #[.int .i64 o.kind, .int .i64 o.lock, .int .i64 o.lk, .int .i64 o.ls, .int .i64 o.lt, .int .i64 o.old, .int .i64 o.new, .int .i64 o.vn, .bool o.pe.en.ad.v6, .int .u64 o.pe.en.ad.hi, .int .u64 o.pe.en.ad.lo, .int .i64 o.pe.en.port, .bool o.pe.came, .int .i64 o.pe.since, .int .i64 o.pe.pts, .int .i64 o.pe.at_, .int .i64 o.pe.ping, .int .i64 o.pe.work, o.bans.1, o.book.1, .bool o.mark]] w fun r w' => r = .returned (.agg #[.int .i64 (opClean o).kind, .int .i64 (opClean o).lock, .int .i64 (opClean o).lk, .int .i64 (opClean o).ls, .int .i64 (opClean o).lt, .int .i64 (opClean o).old, .int .i64 (opClean o).new, .int .i64 (opClean o).vn, .bool (opClean o).pe.en.ad.v6, .int .u64 (opClean o).pe.en.ad.hi, .int .u64 (opClean o).pe.en.ad.lo, .int .i64 (opClean o).pe.en.port, .bool (opClean o).pe.came, .int .i64 (opClean o).pe.since, .int .i64 (opClean o).pe.pts, .int .i64 (opClean o).pe.at_, .int .i64 (opClean o).pe.ping, .int .i64 (opClean o).pe.work, (opClean o).bans.1, (opClean o).book.1, .bool (opClean o).mark]) ∧ Below w.heap.size w w' := by
  obtain ⟨kind, lock, lk, ls, lt, old, new, vn, pe, bans, book, mark⟩ := o
  obtain ⟨bv, bl⟩ := bans
  obtain ⟨yv, yl⟩ := book
  obtain ⟨⟨ba, bc, hb⟩, ⟨ya, yc, hy⟩⟩ := hs
  simp only at hb hy
  subst hb hy
  rcases k8 kind with rfl | rfl | rfl | rfl | rfl | rfl | rfl | rfl | h
  · exact refClean1_any lock lk ls lt old new vn pe ba ya bl.length bc yl.length yc mark w
  · exact refClean2_any lock lk ls lt old new vn pe ba ya bl.length bc yl.length yc mark w
  · exact refClean3_any lock lk ls lt old new vn pe ba ya bl.length bc yl.length yc mark w
  · exact refClean4_any lock lk ls lt old new vn pe ba ya bl.length bc yl.length yc mark w
  · exact refClean5_any lock lk ls lt old new vn pe ba ya bl.length bc yl.length yc mark w
  · have h6 := refClean6_any lock lk ls lt old new vn pe ba ya bl.length bc yl.length yc mark w
    rw [← @cB_slice lk ba bl.length bc bl, ← @cY_slice lk ya yl.length yc yl] at h6
    exact h6
  · exact refClean7_any lock lk ls lt old new vn pe ba ya bl.length bc yl.length yc mark w
  · exact refClean8_any lock lk ls lt old new vn pe ba ya bl.length bc yl.length yc mark w
  · rw [clean_out h]
    exact refClean0_any kind lock lk ls lt old new vn pe ba ya bl.length bc yl.length yc mark h w
theorem opText_all (o : Oq) (hs : o.shaped) (hlock : i64 o.lock) (hls : i64 o.ls) (hlt : i64 o.lt) (hold : i64 o.old) (hnew : i64 o.new) (hvn : i64 o.vn) (hpe : o.pe.en.ad.fits) (hbn : o.bans.2.length ≤ 1000000) (hyn : o.book.2.length ≤ 1000000) (w : World) :
    Calls Try.prog 44 #[.agg #[.int .i64 o.kind, .int .i64 o.lock, .int .i64 o.lk, .int .i64 o.ls, .int .i64 o.lt, .int .i64 o.old, .int .i64 o.new, .int .i64 o.vn, .bool o.pe.en.ad.v6, .int .u64 o.pe.en.ad.hi, .int .u64 o.pe.en.ad.lo, .int .i64 o.pe.en.port, .bool o.pe.came, .int .i64 o.pe.since, .int .i64 o.pe.pts, .int .i64 o.pe.at_, .int .i64 o.pe.ping, .int .i64 o.pe.work, o.bans.1, o.book.1, .bool o.mark]] w fun r w' => r = .returned (.string (bs (opText o))) ∧ Below w.heap.size w w' := by
  obtain ⟨kind, lock, lk, ls, lt, old, new, vn, pe, bans, book, mark⟩ := o
  obtain ⟨bv, bl⟩ := bans
  obtain ⟨yv, yl⟩ := book
  obtain ⟨⟨ba, bc, hb⟩, ⟨ya, yc, hy⟩⟩ := hs
  simp only at hb hy hlock hls hlt hold hnew hvn hpe hbn hyn
  subst hb hy
  rcases k8 kind with rfl | rfl | rfl | rfl | rfl | rfl | rfl | rfl | h
  · cases mark with
    | true =>
      have h := opText1M_any lock lk ls lt old new vn pe ba ya bl.length bc yl.length yc hlock hls hlt hold hnew hvn hpe hbn hyn w
      rw [show opText ⟨1, lock, lk, ls, lt, old, new, vn, pe, (.slice ba bl.length bc, bl), (.slice ya yl.length yc, yl), true⟩ = _ from (by simp [opText, opArgs, markW] : _ = joinL 32 ([nameAt opN 1] ++ [decText lock] ++ [[42]]))]
      exact h
    | false =>
      have h := opText1_any lock lk ls lt old new vn pe ba ya bl.length bc yl.length yc hlock hls hlt hold hnew hvn hpe hbn hyn w
      rw [show opText ⟨1, lock, lk, ls, lt, old, new, vn, pe, (.slice ba bl.length bc, bl), (.slice ya yl.length yc, yl), false⟩ = _ from (by simp [opText, opArgs, markW] : _ = joinL 32 ([nameAt opN 1] ++ [decText lock]))]
      exact h
  · cases mark with
    | true =>
      have h := opText2M_any lock lk ls lt old new vn pe ba ya bl.length bc yl.length yc hlock hls hlt hold hnew hvn hpe hbn hyn w
      rw [show opText ⟨2, lock, lk, ls, lt, old, new, vn, pe, (.slice ba bl.length bc, bl), (.slice ya yl.length yc, yl), true⟩ = _ from (by simp [opText, opArgs, markW] : _ = joinL 32 ([nameAt opN 2] ++ [decText lock] ++ [[42]]))]
      exact h
    | false =>
      have h := opText2_any lock lk ls lt old new vn pe ba ya bl.length bc yl.length yc hlock hls hlt hold hnew hvn hpe hbn hyn w
      rw [show opText ⟨2, lock, lk, ls, lt, old, new, vn, pe, (.slice ba bl.length bc, bl), (.slice ya yl.length yc, yl), false⟩ = _ from (by simp [opText, opArgs, markW] : _ = joinL 32 ([nameAt opN 2] ++ [decText lock]))]
      exact h
  · cases mark with
    | true =>
      have h := opText3M_any lock lk ls lt old new vn pe ba ya bl.length bc yl.length yc hlock hls hlt hold hnew hvn hpe hbn hyn w
      rw [show opText ⟨3, lock, lk, ls, lt, old, new, vn, pe, (.slice ba bl.length bc, bl), (.slice ya yl.length yc, yl), true⟩ = _ from (by simp [opText, opArgs, markW] : _ = joinL 32 ([nameAt opN 3] ++ [decText lock] ++ [[42]]))]
      exact h
    | false =>
      have h := opText3_any lock lk ls lt old new vn pe ba ya bl.length bc yl.length yc hlock hls hlt hold hnew hvn hpe hbn hyn w
      rw [show opText ⟨3, lock, lk, ls, lt, old, new, vn, pe, (.slice ba bl.length bc, bl), (.slice ya yl.length yc, yl), false⟩ = _ from (by simp [opText, opArgs, markW] : _ = joinL 32 ([nameAt opN 3] ++ [decText lock]))]
      exact h
  · cases mark with
    | true =>
      have h := opText4M_any lock lk ls lt old new vn pe ba ya bl.length bc yl.length yc hlock hls hlt hold hnew hvn hpe hbn hyn w
      rw [show opText ⟨4, lock, lk, ls, lt, old, new, vn, pe, (.slice ba bl.length bc, bl), (.slice ya yl.length yc, yl), true⟩ = _ from (by simp [opText, opArgs, markW] : _ = joinL 32 ([nameAt opN 4] ++ [decText lock] ++ [[42]]))]
      exact h
    | false =>
      have h := opText4_any lock lk ls lt old new vn pe ba ya bl.length bc yl.length yc hlock hls hlt hold hnew hvn hpe hbn hyn w
      rw [show opText ⟨4, lock, lk, ls, lt, old, new, vn, pe, (.slice ba bl.length bc, bl), (.slice ya yl.length yc, yl), false⟩ = _ from (by simp [opText, opArgs, markW] : _ = joinL 32 ([nameAt opN 4] ++ [decText lock]))]
      exact h
  · cases mark with
    | true =>
      have h := opText5M_any lock lk ls lt old new vn pe ba ya bl.length bc yl.length yc hlock hls hlt hold hnew hvn hpe hbn hyn w
      rw [show opText ⟨5, lock, lk, ls, lt, old, new, vn, pe, (.slice ba bl.length bc, bl), (.slice ya yl.length yc, yl), true⟩ = _ from (by simp [opText, opArgs, markW] : _ = joinL 32 ([nameAt opN 5] ++ locW lk ls lt ++ [[42]]))]
      exact h
    | false =>
      have h := opText5_any lock lk ls lt old new vn pe ba ya bl.length bc yl.length yc hlock hls hlt hold hnew hvn hpe hbn hyn w
      rw [show opText ⟨5, lock, lk, ls, lt, old, new, vn, pe, (.slice ba bl.length bc, bl), (.slice ya yl.length yc, yl), false⟩ = _ from (by simp [opText, opArgs, markW] : _ = joinL 32 ([nameAt opN 5] ++ locW lk ls lt))]
      exact h
  · cases mark with
    | true =>
      have h := opText6M_any lock lk ls lt old new vn pe ba ya bl.length bc yl.length yc hlock hls hlt hold hnew hvn hpe hbn hyn w
      rw [show opText ⟨6, lock, lk, ls, lt, old, new, vn, pe, (.slice ba bl.length bc, bl), (.slice ya yl.length yc, yl), true⟩ = _ from (by simp [opText, opArgs, markW] : _ = joinL 32 ([nameAt opN 6] ++ locW lk ls lt ++ storedW lk vn pe.en bl.length yl.length ++ [[42]]))]
      exact h
    | false =>
      have h := opText6_any lock lk ls lt old new vn pe ba ya bl.length bc yl.length yc hlock hls hlt hold hnew hvn hpe hbn hyn w
      rw [show opText ⟨6, lock, lk, ls, lt, old, new, vn, pe, (.slice ba bl.length bc, bl), (.slice ya yl.length yc, yl), false⟩ = _ from (by simp [opText, opArgs, markW] : _ = joinL 32 ([nameAt opN 6] ++ locW lk ls lt ++ storedW lk vn pe.en bl.length yl.length))]
      exact h
  · cases mark with
    | true =>
      have h := opText7M_any lock lk ls lt old new vn pe ba ya bl.length bc yl.length yc hlock hls hlt hold hnew hvn hpe hbn hyn w
      rw [show opText ⟨7, lock, lk, ls, lt, old, new, vn, pe, (.slice ba bl.length bc, bl), (.slice ya yl.length yc, yl), true⟩ = _ from (by simp [opText, opArgs, markW] : _ = joinL 32 ([nameAt opN 7] ++ locW lk ls lt ++ [decText old, decText new] ++ [[42]]))]
      exact h
    | false =>
      have h := opText7_any lock lk ls lt old new vn pe ba ya bl.length bc yl.length yc hlock hls hlt hold hnew hvn hpe hbn hyn w
      rw [show opText ⟨7, lock, lk, ls, lt, old, new, vn, pe, (.slice ba bl.length bc, bl), (.slice ya yl.length yc, yl), false⟩ = _ from (by simp [opText, opArgs, markW] : _ = joinL 32 ([nameAt opN 7] ++ locW lk ls lt ++ [decText old, decText new]))]
      exact h
  · cases mark with
    | true =>
      have h := opText8M_any lock lk ls lt old new vn pe ba ya bl.length bc yl.length yc hlock hls hlt hold hnew hvn hpe hbn hyn w
      rw [show opText ⟨8, lock, lk, ls, lt, old, new, vn, pe, (.slice ba bl.length bc, bl), (.slice ya yl.length yc, yl), true⟩ = _ from (by simp [opText, opArgs, markW] : _ = joinL 32 ([nameAt opN 8] ++ [[42]]))]
      exact h
    | false =>
      have h := opText8_any lock lk ls lt old new vn pe ba ya bl.length bc yl.length yc hlock hls hlt hold hnew hvn hpe hbn hyn w
      rw [show opText ⟨8, lock, lk, ls, lt, old, new, vn, pe, (.slice ba bl.length bc, bl), (.slice ya yl.length yc, yl), false⟩ = _ from (by simp [opText, opArgs, markW] : _ = joinL 32 ([nameAt opN 8]))]
      exact h
  · rw [text_out h]
    obtain ⟨n1, n2, n3, n4, n5, n6, n7, n8⟩ := k8_ne h
    have HC := Lib.hid (fun w => codeOp_any kind w)
    go_enter Try.func44, Try.ntmps44
    go_wp2_with (go_at_call 95; (with_reducible refine (HC.out _).mono ?_); rintro e w1 ⟨rfl, b1⟩; obtain ⟨c1, f1⟩ := bcell b1; have z1 := b1.size; (try simp at z1); have l1a : w.heap.size < w1.heap.size := (by omega); have n1a := Nat.ne_of_lt l1a; have d1a := fun o => c1 (w.heap.size) o (by first | omega | (simp; done) | (simp; omega)); clear c1 f1)
    go_ret
    exact ⟨ret_str rfl, by (repeat (first | with_reducible assumption | with_reducible exact Below.refl _ _ | with_reducible refine Below.setCell ?_ (by first | omega | (simp; done) | (simp; omega)) _ | with_reducible refine Below.alloc ?_ (by first | omega | (simp; done) | (simp; omega)) _ | with_reducible refine Below.drew ?_ | (with_reducible refine Below.trans ?_ (Below.mono (by with_reducible assumption) (by first | omega | (simp; done) | (simp; omega)))) | (refine Below.trans ?_ (Below.mono (by assumption) (by first | omega | (simp; done) | (simp; omega))))))⟩
theorem refText36_all (o : Oq) (hs : o.shaped) (hlock : i64 o.lock) (hls : i64 o.ls) (hlt : i64 o.lt) (hold : i64 o.old) (hnew : i64 o.new) (hvn : i64 o.vn) (hpe : o.pe.en.ad.fits) (hbn : o.bans.2.length ≤ 1000000) (hyn : o.book.2.length ≤ 1000000) (w : World) :
    Calls Try.prog 45 #[.agg #[.int .i64 o.kind, .int .i64 o.lock, .int .i64 o.lk, .int .i64 o.ls, .int .i64 o.lt, .int .i64 o.old, .int .i64 o.new, .int .i64 o.vn, .bool o.pe.en.ad.v6, .int .u64 o.pe.en.ad.hi, .int .u64 o.pe.en.ad.lo, .int .i64 o.pe.en.port, .bool o.pe.came, .int .i64 o.pe.since, .int .i64 o.pe.pts, .int .i64 o.pe.at_, .int .i64 o.pe.ping, .int .i64 o.pe.work, o.bans.1, o.book.1, .bool o.mark]] w fun r w' => r = .returned (.string (bs (opText o))) ∧ Below w.heap.size w w' := by
  obtain ⟨kind, lock, lk, ls, lt, old, new, vn, pe, bans, book, mark⟩ := o
  obtain ⟨bv, bl⟩ := bans
  obtain ⟨yv, yl⟩ := book
  obtain ⟨⟨ba, bc, hb⟩, ⟨ya, yc, hy⟩⟩ := hs
  simp only at hb hy hlock hls hlt hold hnew hvn hpe hbn hyn
  subst hb hy
  rcases k8 kind with rfl | rfl | rfl | rfl | rfl | rfl | rfl | rfl | h
  · cases mark with
    | true =>
      have h := refText36_1M lock lk ls lt old new vn pe ba ya bl.length bc yl.length yc hlock hls hlt hold hnew hvn hpe hbn hyn w
      rw [show opText ⟨1, lock, lk, ls, lt, old, new, vn, pe, (.slice ba bl.length bc, bl), (.slice ya yl.length yc, yl), true⟩ = _ from (by simp [opText, opArgs, markW] : _ = joinL 32 ([nameAt opN 1] ++ [decText lock] ++ [[42]]))]
      exact h
    | false =>
      have h := refText36_1 lock lk ls lt old new vn pe ba ya bl.length bc yl.length yc hlock hls hlt hold hnew hvn hpe hbn hyn w
      rw [show opText ⟨1, lock, lk, ls, lt, old, new, vn, pe, (.slice ba bl.length bc, bl), (.slice ya yl.length yc, yl), false⟩ = _ from (by simp [opText, opArgs, markW] : _ = joinL 32 ([nameAt opN 1] ++ [decText lock]))]
      exact h
  · cases mark with
    | true =>
      have h := refText36_2M lock lk ls lt old new vn pe ba ya bl.length bc yl.length yc hlock hls hlt hold hnew hvn hpe hbn hyn w
      rw [show opText ⟨2, lock, lk, ls, lt, old, new, vn, pe, (.slice ba bl.length bc, bl), (.slice ya yl.length yc, yl), true⟩ = _ from (by simp [opText, opArgs, markW] : _ = joinL 32 ([nameAt opN 2] ++ [decText lock] ++ [[42]]))]
      exact h
    | false =>
      have h := refText36_2 lock lk ls lt old new vn pe ba ya bl.length bc yl.length yc hlock hls hlt hold hnew hvn hpe hbn hyn w
      rw [show opText ⟨2, lock, lk, ls, lt, old, new, vn, pe, (.slice ba bl.length bc, bl), (.slice ya yl.length yc, yl), false⟩ = _ from (by simp [opText, opArgs, markW] : _ = joinL 32 ([nameAt opN 2] ++ [decText lock]))]
      exact h
  · cases mark with
    | true =>
      have h := refText36_3M lock lk ls lt old new vn pe ba ya bl.length bc yl.length yc hlock hls hlt hold hnew hvn hpe hbn hyn w
      rw [show opText ⟨3, lock, lk, ls, lt, old, new, vn, pe, (.slice ba bl.length bc, bl), (.slice ya yl.length yc, yl), true⟩ = _ from (by simp [opText, opArgs, markW] : _ = joinL 32 ([nameAt opN 3] ++ [decText lock] ++ [[42]]))]
      exact h
    | false =>
      have h := refText36_3 lock lk ls lt old new vn pe ba ya bl.length bc yl.length yc hlock hls hlt hold hnew hvn hpe hbn hyn w
      rw [show opText ⟨3, lock, lk, ls, lt, old, new, vn, pe, (.slice ba bl.length bc, bl), (.slice ya yl.length yc, yl), false⟩ = _ from (by simp [opText, opArgs, markW] : _ = joinL 32 ([nameAt opN 3] ++ [decText lock]))]
      exact h
  · cases mark with
    | true =>
      have h := refText36_4M lock lk ls lt old new vn pe ba ya bl.length bc yl.length yc hlock hls hlt hold hnew hvn hpe hbn hyn w
      rw [show opText ⟨4, lock, lk, ls, lt, old, new, vn, pe, (.slice ba bl.length bc, bl), (.slice ya yl.length yc, yl), true⟩ = _ from (by simp [opText, opArgs, markW] : _ = joinL 32 ([nameAt opN 4] ++ [decText lock] ++ [[42]]))]
      exact h
    | false =>
      have h := refText36_4 lock lk ls lt old new vn pe ba ya bl.length bc yl.length yc hlock hls hlt hold hnew hvn hpe hbn hyn w
      rw [show opText ⟨4, lock, lk, ls, lt, old, new, vn, pe, (.slice ba bl.length bc, bl), (.slice ya yl.length yc, yl), false⟩ = _ from (by simp [opText, opArgs, markW] : _ = joinL 32 ([nameAt opN 4] ++ [decText lock]))]
      exact h
  · cases mark with
    | true =>
      have h := refText36_5M lock lk ls lt old new vn pe ba ya bl.length bc yl.length yc hlock hls hlt hold hnew hvn hpe hbn hyn w
      rw [show opText ⟨5, lock, lk, ls, lt, old, new, vn, pe, (.slice ba bl.length bc, bl), (.slice ya yl.length yc, yl), true⟩ = _ from (by simp [opText, opArgs, markW] : _ = joinL 32 ([nameAt opN 5] ++ locW lk ls lt ++ [[42]]))]
      exact h
    | false =>
      have h := refText36_5 lock lk ls lt old new vn pe ba ya bl.length bc yl.length yc hlock hls hlt hold hnew hvn hpe hbn hyn w
      rw [show opText ⟨5, lock, lk, ls, lt, old, new, vn, pe, (.slice ba bl.length bc, bl), (.slice ya yl.length yc, yl), false⟩ = _ from (by simp [opText, opArgs, markW] : _ = joinL 32 ([nameAt opN 5] ++ locW lk ls lt))]
      exact h
  · cases mark with
    | true =>
      have h := refText36_6M lock lk ls lt old new vn pe ba ya bl.length bc yl.length yc hlock hls hlt hold hnew hvn hpe hbn hyn w
      rw [show opText ⟨6, lock, lk, ls, lt, old, new, vn, pe, (.slice ba bl.length bc, bl), (.slice ya yl.length yc, yl), true⟩ = _ from (by simp [opText, opArgs, markW] : _ = joinL 32 ([nameAt opN 6] ++ locW lk ls lt ++ storedW lk vn pe.en bl.length yl.length ++ [[42]]))]
      exact h
    | false =>
      have h := refText36_6 lock lk ls lt old new vn pe ba ya bl.length bc yl.length yc hlock hls hlt hold hnew hvn hpe hbn hyn w
      rw [show opText ⟨6, lock, lk, ls, lt, old, new, vn, pe, (.slice ba bl.length bc, bl), (.slice ya yl.length yc, yl), false⟩ = _ from (by simp [opText, opArgs, markW] : _ = joinL 32 ([nameAt opN 6] ++ locW lk ls lt ++ storedW lk vn pe.en bl.length yl.length))]
      exact h
  · cases mark with
    | true =>
      have h := refText36_7M lock lk ls lt old new vn pe ba ya bl.length bc yl.length yc hlock hls hlt hold hnew hvn hpe hbn hyn w
      rw [show opText ⟨7, lock, lk, ls, lt, old, new, vn, pe, (.slice ba bl.length bc, bl), (.slice ya yl.length yc, yl), true⟩ = _ from (by simp [opText, opArgs, markW] : _ = joinL 32 ([nameAt opN 7] ++ locW lk ls lt ++ [decText old, decText new] ++ [[42]]))]
      exact h
    | false =>
      have h := refText36_7 lock lk ls lt old new vn pe ba ya bl.length bc yl.length yc hlock hls hlt hold hnew hvn hpe hbn hyn w
      rw [show opText ⟨7, lock, lk, ls, lt, old, new, vn, pe, (.slice ba bl.length bc, bl), (.slice ya yl.length yc, yl), false⟩ = _ from (by simp [opText, opArgs, markW] : _ = joinL 32 ([nameAt opN 7] ++ locW lk ls lt ++ [decText old, decText new]))]
      exact h
  · cases mark with
    | true =>
      have h := refText36_8M lock lk ls lt old new vn pe ba ya bl.length bc yl.length yc hlock hls hlt hold hnew hvn hpe hbn hyn w
      rw [show opText ⟨8, lock, lk, ls, lt, old, new, vn, pe, (.slice ba bl.length bc, bl), (.slice ya yl.length yc, yl), true⟩ = _ from (by simp [opText, opArgs, markW] : _ = joinL 32 ([nameAt opN 8] ++ [[42]]))]
      exact h
    | false =>
      have h := refText36_8 lock lk ls lt old new vn pe ba ya bl.length bc yl.length yc hlock hls hlt hold hnew hvn hpe hbn hyn w
      rw [show opText ⟨8, lock, lk, ls, lt, old, new, vn, pe, (.slice ba bl.length bc, bl), (.slice ya yl.length yc, yl), false⟩ = _ from (by simp [opText, opArgs, markW] : _ = joinL 32 ([nameAt opN 8]))]
      exact h
  · rw [text_out h]
    have hz : nameAt opN kind = [] := by
      rcases h with h | h
      · rcases Int.lt_or_le kind 0 with h0 | h0
        · exact nameAt_lo h0
        · obtain rfl : kind = 0 := by omega
          rfl
      · exact nameAt_hi (by show (9 : Int) ≤ kind; omega)
    have hC := fun w => refOp_any kind w
    rw [hz] at hC
    have HC := Lib.hid hC
    have q0 : (bs []).toList.isEmpty = true := by rw [bs_toL]; rfl
    have q1 : ((bs []).toList == []) = true := by rw [bs_toL]; rfl
    go_enter Try.func45, Try.ntmps45
    go_wp2_with (go_at_call 98; (with_reducible refine (HC.out _).mono ?_); rintro e w0 ⟨rfl, rfl⟩)
    go_ret
    exact ⟨ret_str rfl, by (repeat (first | with_reducible assumption | with_reducible exact Below.refl _ _ | with_reducible refine Below.setCell ?_ (by first | omega | (simp; done) | (simp; omega)) _ | with_reducible refine Below.alloc ?_ (by first | omega | (simp; done) | (simp; omega)) _ | with_reducible refine Below.drew ?_ | (with_reducible refine Below.trans ?_ (Below.mono (by with_reducible assumption) (by first | omega | (simp; done) | (simp; omega)))) | (refine Below.trans ?_ (Below.mono (by assumption) (by first | omega | (simp; done) | (simp; omega))))))⟩
set_option maxRecDepth 100000 in
set_option maxHeartbeats 8000000 in
theorem sameVal_self (n : Int) (p : Pe) (ba ya : Option Addr) (bn bc yn yc : Nat) (bl : List Ba) (yl : List Ey) (w : World) (hb : ReadsL baV 5 w (.slice ba bn bc) bl) (hy : ReadsL eyV 7 w (.slice ya yn yc) yl) :
    Calls Try.prog 90 #[.agg #[.int .i64 n, .bool p.en.ad.v6, .int .u64 p.en.ad.hi, .int .u64 p.en.ad.lo, .int .i64 p.en.port, .bool p.came, .int .i64 p.since, .int .i64 p.pts, .int .i64 p.at_, .int .i64 p.ping, .int .i64 p.work, .slice ba bn bc, .slice ya yn yc], .agg #[.int .i64 n, .bool p.en.ad.v6, .int .u64 p.en.ad.hi, .int .u64 p.en.ad.lo, .int .i64 p.en.port, .bool p.came, .int .i64 p.since, .int .i64 p.pts, .int .i64 p.at_, .int .i64 p.ping, .int .i64 p.work, .slice ba bn bc, .slice ya yn yc]] w fun r w' => r = .returned (.bool true) ∧ Below w.heap.size w w' := by
  have HB := Lib.hid (fun w' (h : Below w.heap.size w w') => bans_self (.slice ba bn bc) bl w' (hb.below h))
  have HY := Lib.hid (fun w' (h : Below w.heap.size w w') => book_self (.slice ya yn yc) yl w' (hy.below h))
  have q := fun W => eqlPe_self p W
  clear hb hy
  go_enter Try.func90, Try.ntmps90
  go_wp2_with (first | (go_at_call 140; (with_reducible refine (HB.out _ (by (repeat (first | with_reducible assumption | with_reducible exact Below.refl _ _ | with_reducible refine Below.setCell ?_ (by first | omega | (simp; done) | (simp; omega)) _ | with_reducible refine Below.alloc ?_ (by first | omega | (simp; done) | (simp; omega)) _ | with_reducible refine Below.drew ?_ | (with_reducible refine Below.trans ?_ (Below.mono (by with_reducible assumption) (by first | omega | (simp; done) | (simp; omega)))) | (refine Below.trans ?_ (Below.mono (by assumption) (by first | omega | (simp; done) | (simp; omega)))))))).mono ?_); rintro e w1 ⟨rfl, b1⟩; obtain ⟨c1, f1⟩ := bcell b1; have z1 := b1.size; (try simp at z1); have d1a := fun o => c1 (w.heap.size) o (by first | omega | (simp; done) | (simp; omega)); have d1b := fun o => c1 (w.heap.size + 1) o (by first | omega | (simp; done) | (simp; omega)); clear c1 f1) | (go_at_call 141; (with_reducible refine (HY.out _ (by (repeat (first | with_reducible assumption | with_reducible exact Below.refl _ _ | with_reducible refine Below.setCell ?_ (by first | omega | (simp; done) | (simp; omega)) _ | with_reducible refine Below.alloc ?_ (by first | omega | (simp; done) | (simp; omega)) _ | with_reducible refine Below.drew ?_ | (with_reducible refine Below.trans ?_ (Below.mono (by with_reducible assumption) (by first | omega | (simp; done) | (simp; omega)))) | (refine Below.trans ?_ (Below.mono (by assumption) (by first | omega | (simp; done) | (simp; omega)))))))).mono ?_); rintro e w2 ⟨rfl, b2⟩; obtain ⟨c2, f2⟩ := bcell b2; have z2 := b2.size; (try simp at z2); have d2a := fun o => c2 (w.heap.size) o (by first | omega | (simp; done) | (simp; omega)); have d2b := fun o => c2 (w.heap.size + 1) o (by first | omega | (simp; done) | (simp; omega)); clear c2 f2))
  go_ret
  refine ⟨rfl, ?_⟩
  (repeat (first | with_reducible assumption | with_reducible exact Below.refl _ _ | with_reducible refine Below.setCell ?_ (by first | omega | (simp; done) | (simp; omega)) _ | with_reducible refine Below.alloc ?_ (by first | omega | (simp; done) | (simp; omega)) _ | with_reducible refine Below.drew ?_ | (with_reducible refine Below.trans ?_ (Below.mono (by with_reducible assumption) (by first | omega | (simp; done) | (simp; omega)))) | (refine Below.trans ?_ (Below.mono (by assumption) (by first | omega | (simp; done) | (simp; omega))))))
set_option maxRecDepth 100000 in
set_option maxHeartbeats 8000000 in
theorem sameOp_self (o : Oq) (hs : o.shaped) (w : World) (hb : ReadsL baV 5 w o.bans.1 o.bans.2) (hy : ReadsL eyV 7 w o.book.1 o.book.2) :
    Calls Try.prog 41 #[.agg #[.int .i64 o.kind, .int .i64 o.lock, .int .i64 o.lk, .int .i64 o.ls, .int .i64 o.lt, .int .i64 o.old, .int .i64 o.new, .int .i64 o.vn, .bool o.pe.en.ad.v6, .int .u64 o.pe.en.ad.hi, .int .u64 o.pe.en.ad.lo, .int .i64 o.pe.en.port, .bool o.pe.came, .int .i64 o.pe.since, .int .i64 o.pe.pts, .int .i64 o.pe.at_, .int .i64 o.pe.ping, .int .i64 o.pe.work, o.bans.1, o.book.1, .bool o.mark], .agg #[.int .i64 o.kind, .int .i64 o.lock, .int .i64 o.lk, .int .i64 o.ls, .int .i64 o.lt, .int .i64 o.old, .int .i64 o.new, .int .i64 o.vn, .bool o.pe.en.ad.v6, .int .u64 o.pe.en.ad.hi, .int .u64 o.pe.en.ad.lo, .int .i64 o.pe.en.port, .bool o.pe.came, .int .i64 o.pe.since, .int .i64 o.pe.pts, .int .i64 o.pe.at_, .int .i64 o.pe.ping, .int .i64 o.pe.work, o.bans.1, o.book.1, .bool o.mark]] w fun r w' => r = .returned (.bool true) ∧ Below w.heap.size w w' := by
  obtain ⟨kind, lock, lk, ls, lt, old, new, vn, pe, bans, book, mark⟩ := o
  obtain ⟨bv, bl⟩ := bans
  obtain ⟨yv, yl⟩ := book
  obtain ⟨⟨ba, bc, e1⟩, ⟨ya, yc, e2⟩⟩ := hs
  simp only at e1 e2 hb hy
  subst e1 e2
  have HV := Lib.hid (fun w' (h : Below w.heap.size w w') => sameVal_self vn pe ba ya bl.length bc yl.length yc bl yl w' (hb.below h) (hy.below h))
  have q := fun W => eqlLoc_self lk ls lt W
  clear hb hy
  go_enter Try.func41, Try.ntmps41
  go_wp2_with (go_at_call 90; (with_reducible refine (HV.out _ (by (repeat (first | with_reducible assumption | with_reducible exact Below.refl _ _ | with_reducible refine Below.setCell ?_ (by first | omega | (simp; done) | (simp; omega)) _ | with_reducible refine Below.alloc ?_ (by first | omega | (simp; done) | (simp; omega)) _ | with_reducible refine Below.drew ?_ | (with_reducible refine Below.trans ?_ (Below.mono (by with_reducible assumption) (by first | omega | (simp; done) | (simp; omega)))) | (refine Below.trans ?_ (Below.mono (by assumption) (by first | omega | (simp; done) | (simp; omega)))))))).mono ?_); rintro e w1 ⟨rfl, b1⟩; obtain ⟨c1, f1⟩ := bcell b1; have z1 := b1.size; (try simp at z1); have d1a := fun o => c1 (w.heap.size) o (by first | omega | (simp; done) | (simp; omega)); have d1b := fun o => c1 (w.heap.size + 1) o (by first | omega | (simp; done) | (simp; omega)); clear c1 f1)
  go_ret
  refine ⟨rfl, ?_⟩
  (repeat (first | with_reducible assumption | with_reducible exact Below.refl _ _ | with_reducible refine Below.setCell ?_ (by first | omega | (simp; done) | (simp; omega)) _ | with_reducible refine Below.alloc ?_ (by first | omega | (simp; done) | (simp; omega)) _ | with_reducible refine Below.drew ?_ | (with_reducible refine Below.trans ?_ (Below.mono (by with_reducible assumption) (by first | omega | (simp; done) | (simp; omega)))) | (refine Below.trans ?_ (Below.mono (by assumption) (by first | omega | (simp; done) | (simp; omega))))))
end Go.Proofs.Ytnohkfbapibmdaa
