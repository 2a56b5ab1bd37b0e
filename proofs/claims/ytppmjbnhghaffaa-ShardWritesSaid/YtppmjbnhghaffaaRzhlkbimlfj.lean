/- Texts put together: ShD. No condition. -/
import Derived.Test.YtppmjbnhghaffaaRcejaibaefu
import Derived.Test.YtppmjbnhghaffaaRpcrsjrfrge
namespace Go.Proofs.Ytppmjbnhghaffaa
open Go.RowKit Go.Lib

set_option maxRecDepth 100000 in
set_option maxHeartbeats 8000000 in
/-- slices.DeleteFunc at peers, whatever the test -/
theorem peDelFunc (g0 : Nat) (lb : Array Value) (t : Pe → Bool) (v : Value) (l : List Pe) (hl : l.length ≤ 1000000) (base : Nat) (w : World) (hown : w.ownsRow base 66 10 v l.length (l.flatMap peV))
    (hbase : base ≤ w.heap.size)
    (hp : ∀ (W : World) (x : Pe), x ∈ l → Below base w W → Calls Try.prog g0 (#[.agg #[.bool x.en.ad.v6, .int .u64 x.en.ad.hi, .int .u64 x.en.ad.lo, .int .i64 x.en.port, .bool x.came, .int .i64 x.since, .int .i64 x.pts, .int .i64 x.at_, .int .i64 x.ping, .int .i64 x.work]] ++ lb) W fun e w' => e = .returned (.bool (t x)) ∧ Below W.heap.size W w')
    (eg : ∀ args w, (callFunc g0 args).run Try.prog w = .ok (.enter g0 args) w) :
    Calls Try.prog 101 #[v, .func (.func g0) #[] lb] w fun e w' =>
      ∃ r, e = .returned r ∧ w'.ownsRow base 66 10 r (l.filter fun x => !t x).length ((l.filter fun x => !t x).flatMap peV) ∧ Below base w w' := by
  cases hq : l.findIdx? t with
  | none =>
    have hf : l.filter (fun x => !t x) = l := by
      rw [List.findIdx?_eq_none_iff] at hq
      rw [List.filter_eq_self]
      intro x hx
      have := hq x hx
      simpa using this
    have hm : fnI l t = -1 := by unfold fnI; rw [hq]
    have HIx := Lib.hid (peIndexFunc g0 lb t _ l w (owns_readsL hown) (fun W x hx hb => (hp W x hx (hb.mono hbase)).mono fun e w' ⟨he, hb'⟩ => ⟨he, below2 hb hb'⟩) eg)
    rw [hm] at HIx
    rw [hf]
    have HO := Lib.hid hown
    obtain ⟨a, c, rfl⟩ := owns_slice hown
    clear hq hf hm hown hp
    go_enter Try.func101, Try.ntmps101
    go_wp2_with (go_at_call 109; (with_reducible refine HIx.out.mono ?_); rintro e w1 ⟨rfl, b1⟩)
    go_ret
    exact ⟨_, rfl, owns_below HO.out b1, b1.mono hbase⟩
  | some i =>
    have hi : fnI l t = i := by unfold fnI; rw [hq]
    have hil : 0 < l.length := by
      rw [List.findIdx?_eq_some_iff_getElem] at hq
      obtain ⟨h, _⟩ := hq
      omega
    obtain ⟨g, cap, rfl⟩ : ∃ g c, v = .slice (some ⟨g, 0, none⟩) l.length c := by
      rcases hown.2 with ⟨_, h0⟩ | ⟨g, cap, cur, rfl, _⟩
      · omega
      · exact ⟨_, _, rfl⟩
    exact peDelFunc_hit g0 lb t l hl base g cap w hown i hi hbase hp eg
set_option maxRecDepth 100000 in
set_option maxHeartbeats 4000000 in
theorem shRest_clo (x : Pe) (u : Value) (gone : List En) (B : Nat) (w : World) (c0 : w.cell? ⟨B, 0, none⟩ = some u) (hB : B < w.heap.size) (h : ReadsL enV 4 w u gone) :
    Calls Try.prog 102 #[.agg #[.bool x.en.ad.v6, .int .u64 x.en.ad.hi, .int .u64 x.en.ad.lo, .int .i64 x.en.port, .bool x.came, .int .i64 x.since, .int .i64 x.pts, .int .i64 x.at_, .int .i64 x.ping, .int .i64 x.work], .pointer (some ⟨B, 0, none⟩)] w fun e w' => e = .returned (.bool (hasE gone x.en)) ∧ Below w.heap.size w w' := by
  have HB0 : Hid (Below w.heap.size w (w.alloc (.cells #[.bool x.en.ad.v6, .int .u64 x.en.ad.hi, .int .u64 x.en.ad.lo, .int .i64 x.en.port, .bool x.came, .int .i64 x.since, .int .i64 x.pts, .int .i64 x.at_, .int .i64 x.ping, .int .i64 x.work] 66))) := (Below.refl _ _).alloc (Nat.le_refl _) _
  have hne : B ≠ w.heap.size := by omega
  have HC := Lib.hid (enContains_any u gone x.en _ (ReadsL.below h HB0.out))
  obtain ⟨_, pu, cu, rfl, -⟩ := ens_open h
  generalize hasE gone x.en = z at *
  clear h
  go_enter Try.func102, Try.ntmps102
  go_wp2_with (go_at_call 103; (with_reducible refine HC.out.mono ?_); rintro e w1 ⟨rfl, b1⟩)
  go_ret
  exact ⟨rfl, below2 HB0.out b1⟩
set_option maxRecDepth 100000 in
set_option maxHeartbeats 4000000 in
theorem shRest_any (v u : Value) (l : List Pe) (gone : List En) (w : World) (h : ReadsL peV 10 w v l) (h2 : ReadsL enV 4 w u gone) (hl : l.length ≤ 1000000) :
    Calls Try.prog 56 #[v, u] w fun e w' => ∃ r, e = .returned r ∧ ReadsL peV 10 w' r (restL gone l) ∧ Below w.heap.size w w' := by
  obtain ⟨_, pu, cu, rfl, -⟩ := ens_open h2
  have b0 : Below w.heap.size w (w.alloc (.cells #[.slice pu gone.length cu] 80)) := (Below.refl _ _).alloc (Nat.le_refl _) _
  have c0 : (w.alloc (.cells #[.slice pu gone.length cu] 80)).cell? ⟨w.heap.size, 0, none⟩ = some (.slice pu gone.length cu) := by simp [go_sem]
  have s0 : (w.alloc (.cells #[.slice pu gone.length cu] 80)).heap.size = w.heap.size + 1 := by simp
  have HCl := Lib.hid (clonePe v l _ (ReadsL.below h b0) hl)
  have HB0 := Lib.hid b0
  generalize hW0 : w.alloc (.cells #[.slice pu gone.length cu] 80) = W0 at *
  have HD : Hid (∀ (r : Value) (W : World), W.ownsRow W0.heap.size 66 10 r l.length (l.flatMap peV) → Below W0.heap.size W0 W →
      Calls Try.prog 101 #[r, .func (.func 102) #[] #[.pointer (some ⟨w.heap.size, 0, none⟩)]] W fun e w' => ∃ r, e = .returned r ∧ ReadsL peV 10 w' r (restL gone l) ∧ Below W0.heap.size W w') := fun r W ho hb =>
    (peDelFunc 102 #[.pointer (some ⟨w.heap.size, 0, none⟩)] (fun x => hasE gone x.en) r l hl W0.heap.size W ho hb.size (fun W' x _ hb' => by
      have hbb : Below W0.heap.size W0 W' := hb.trans hb'
      exact shRest_clo x _ gone w.heap.size W' (keep hbb (by omega) c0) (Nat.lt_of_lt_of_le (by omega) hbb.size) (ReadsL.below h2 (b0.trans (hbb.mono (by omega))))) (enters_of Try.func102 (by kernel_rfl) rfl)).mono fun e w' ⟨r, he, ho', hb'⟩ => ⟨r, he, owns_readsL ho', hb'⟩
  clear h h2 c0 s0 b0
  subst hW0
  go_enter Try.func56, Try.ntmps56
  go_wp2_with (first
    | (go_at_call 100; (with_reducible refine HCl.out.mono ?_); rintro e w1 ⟨r1, rfl, o1, b1, k1⟩)
    | (go_at_call 101; (with_reducible refine (HD.out _ _ o1 b1).mono ?_); rintro e w2 ⟨r2, rfl, rd2, b2⟩))
  go_ret
  exact ⟨_, rfl, rd2, (HB0.out.trans ((b1.trans b2).mono HB0.out.size))⟩
set_option maxRecDepth 100000 in
set_option maxHeartbeats 8000000 in
theorem refShRest_any (v u : Value) (l : List Pe) (gone : List En) (w : World) (h : ReadsL peV 10 w v l) (h2 : ReadsL enV 4 w u gone) (hl : l.length ≤ 1000000) :
    Calls Try.prog 57 #[v, u] w fun e w' => ∃ r, e = .returned r ∧ ReadsL peV 10 w' r (restL gone l) ∧ Below w.heap.size w w' := by
  obtain ⟨hm, a0, c, rfl, h3⟩ := pes_open h
  have HG := Lib.hid (fun (W : World) (x : Pe) (hb : Below w.heap.size w W) => refHas_any u gone x.en W (ReadsL.below h2 hb))
  clear h h2
  have HMade : Hid ((w.alloc (.cells #[] 66)).ownsRow w.heap.size 66 10 (.slice (some ⟨w.heap.size, 0, none⟩) 0 0) 0 []) := own_made rfl (Nat.le_refl _)
  have HB0 : Hid (Below w.heap.size w (w.alloc (.cells #[] 66))) := (Below.refl _ _).alloc (Nat.le_refl _) _
  go_enter Try.func57, Try.ntmps57
  go_wp2_with fail
  go_loopw [5, 6] (fun u' i' wr => ∃ k : Nat, k ≤ l.length ∧ i' = .int .i64 k ∧ Hid (wr.ownsRow w.heap.size 66 10 u' (restL gone (l.take k)).length ((restL gone (l.take k)).flatMap peV)) ∧ Hid (Below w.heap.size w wr)) (fun _ i' _ => l.length - (intOf i').toNat)
  case atStart => exact ⟨0, by omega, rfl, HMade.out, HB0.out⟩
  case round =>
    clear HMade HB0
    obtain ⟨k, hk, rfl, HU, HB⟩ := hrel
    by_cases hlt : k < l.length
    · obtain ⟨x, hx⟩ : ∃ x, l[k]? = some x := ⟨_, List.getElem?_eq_getElem hlt⟩
      obtain ⟨b, o, rfl, h4, h5, h6⟩ := h3 (by omega)
      have hbl := Nat.lt_of_lt_of_le h5 HB.out.size
      have hK := (h6 k x hx).below HB.out h5
      have HK := Lib.hid hK
      obtain ⟨k0, k1, k2, k3, k4, k5, k6, k7, k8, k9⟩ := hK
      have q1 : (0 : Int) ≤ (k : Int) := by omega
      have q2 : (k : Int) < (l.length : Int) := by omega
      have hS := filt_snoc (fun p => !hasE gone p.en) l k x hx
      have HS := Lib.hid hS
      have hcl : (restL gone (l.take k)).length ≤ k := Nat.le_trans (List.length_filter_le _ _) (by rw [List.length_take]; omega)
      have HH := Lib.hid (HG.out wr x HB.out)
      clear hx hS h6 h3
      cases hr : hasE gone x.en with
      | true =>
        rw [hr] at HH
        have HN : Hid (restL gone (l.take (k + 1)) = restL gone (l.take k)) := by show _ = _; unfold restL; rw [HS.out, hr]; rfl
        clear hr
        go_wp2_with (go_at_call 104; (with_reducible refine HH.out.mono ?_); rintro e w5 ⟨rfl, b5⟩)
        go_roundw
        case rel => exact ⟨k + 1, by omega, by go_num, by rw [HN.out]; exact owns_below HU.out b5, below2 HB.out b5⟩
        case measure => simp [intOf]; omega
      | false =>
        rw [hr] at HH
        have HN : Hid (restL gone (l.take (k + 1)) = restL gone (l.take k) ++ [x]) := by show _ = _; unfold restL; rw [HS.out, hr]; rfl
        clear hr
        go_upto_region 6 with (go_at_call 104; (with_reducible refine HH.out.mono ?_); rintro e W6 ⟨rfl, b6⟩)
        have HB6 := Lib.hid b6
        clear k0 k1 k2 k3 k4 k5 k6 k7 k8 k9 b6
        have hK6 := HK.out.below HB6.out hbl
        obtain ⟨k0, k1, k2, k3, k4, k5, k6, k7, k8, k9⟩ := hK6
        have HU6 := Lib.hid (owns_below HU.out HB6.out)
        have HW6 : Hid (w.heap.size ≤ W6.heap.size) := Nat.le_trans HB.out.size HB6.out.size
        have hlen2 : (restL gone (l.take k) ++ [x]).length = (restL gone (l.take k)).length + 1 := by simp
        have hfl : (restL gone (l.take k) ++ [x]).flatMap peV = (restL gone (l.take k)).flatMap peV ++ peV x := by rw [List.flatMap_append]; simp
        have HL := Lib.hid hlen2; have HFl := Lib.hid hfl
        clear hlen2 hfl HU HH
        go_wp2_with (at_builtin; refine list_app_reads peRow rfl (.tmp 22) (.tmp 27) rfl w.heap.size _ (restL gone (l.take k)).length ((restL gone (l.take k)).flatMap peV) rfl (HU6.out.alloc _) _ 1 (peV x) rfl (reads_one (us := peV x) rfl (Nat.succ_pos 9)) (peV_one1 x) (by omega) (by omega) (by have := HW6.out; simp; omega) w.heap.size W6 ((Below.refl _ _).alloc HW6.out _) (Nat.le_refl _) ?_; intro v7 w7 o7 b7)
        go_roundw
        case rel => exact ⟨k + 1, by omega, by go_num, by rw [HN.out, HL.out, HFl.out]; exact o7, (HB.out.trans (HB6.out.mono HB.out.size)).trans b7⟩
        case measure => simp [intOf]; omega
    · obtain rfl : k = l.length := by omega
      have hTk : l.take l.length = l := List.take_length
      rw [hTk] at HU
      clear hTk
      go_wp2_with fail
      go_ret
      exact ⟨_, rfl, owns_readsL HU.out, HB.out⟩
end Go.Proofs.Ytppmjbnhghaffaa
