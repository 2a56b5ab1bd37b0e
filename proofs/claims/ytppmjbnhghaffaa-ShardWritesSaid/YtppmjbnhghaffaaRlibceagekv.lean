/- Texts put together: Siege, ShB, SiegeB, PlTable, PlGood. No condition. -/
import Derived.Test.YtppmjbnhghaffaaRyrlyyxzadd
import Derived.Test.YtppmjbnhghaffaaRyjgkeyybdp
import Derived.Test.YtppmjbnhghaffaaRybrqueqbby
import Derived.Test.YtppmjbnhghaffaaRnnwkrfiiis
import Derived.Test.YtppmjbnhghaffaaRvdesaezpuu
namespace Go.Proofs.Ytppmjbnhghaffaa
open Go.RowKit
set_option linter.unusedSimpArgs false
set_option linter.unusedVariables false

/-- the first place at which it holds, or -1 -/
def fnI (l : List Pe) (t : Pe → Bool) : Int := match l.findIdx? t with | some i => (i : Int) | none => -1
theorem fnI_hit {l : List Pe} {t : Pe → Bool} {k : Nat} {p : Pe} (hp : l[k]? = some p) (ht : t p = true) (hA : ∀ j q, j < k → l[j]? = some q → t q = false) : fnI l t = k := by
  have h : l.findIdx? t = some k := by
    rw [List.findIdx?_eq_some_iff_getElem]
    obtain ⟨hk, e⟩ := List.getElem?_eq_some_iff.1 hp
    refine ⟨hk, by rw [e]; exact ht, fun j hj => ?_⟩
    rw [hA j _ hj (List.getElem?_eq_getElem (by omega))]; simp
  unfold fnI; rw [h]
theorem fnI_miss {l : List Pe} {t : Pe → Bool} (hA : ∀ j q, j < l.length → l[j]? = some q → t q = false) : fnI l t = -1 := by
  have h : l.findIdx? t = none := by
    rw [List.findIdx?_eq_none_iff]
    intro x hx
    obtain ⟨j, hj, e⟩ := List.getElem_of_mem hx
    exact hA j x hj (by rw [List.getElem?_eq_getElem hj, e])
  unfold fnI; rw [h]
set_option maxRecDepth 100000 in
set_option maxHeartbeats 4000000 in
/-- slices.IndexFunc at peers, whatever the test -/
theorem peIndexFunc (g : Nat) (lb : Array Value) (t : Pe → Bool) (v : Value) (l : List Pe) (w : World) (h : ReadsL peV 10 w v l)
    (hp : ∀ (W : World) (x : Pe), x ∈ l → Below w.heap.size w W → Calls Try.prog g (#[.agg #[.bool x.en.ad.v6, .int .u64 x.en.ad.hi, .int .u64 x.en.ad.lo, .int .i64 x.en.port, .bool x.came, .int .i64 x.since, .int .i64 x.pts, .int .i64 x.at_, .int .i64 x.ping, .int .i64 x.work]] ++ lb) W fun e w' => e = .returned (.bool (t x)) ∧ Below w.heap.size w w') :
    (∀ args w, (callFunc g args).run Try.prog w = .ok (.enter g args) w) →
    Calls Try.prog 109 #[v, .func (.func g) #[] lb] w fun e w' => e = .returned (.int .i64 (fnI l t)) ∧ Below w.heap.size w w' := by
  intro eg
  obtain ⟨hm, p, c, rfl, h3⟩ := pes_open h
  clear h
  have HP := Lib.hid hp
  clear hp
  go_enter Try.func109, Try.ntmps109
  go_wp2_with fail
  go_loopw [5, 8] (fun _ i' wr => ∃ k : Nat, k ≤ l.length ∧ i' = .int .i64 k ∧ Hid (Below w.heap.size w wr) ∧ Hid (∀ j q, j < k → l[j]? = some q → t q = false)) (fun _ i' _ => l.length - (intOf i').toNat)
  case atStart => exact ⟨0, by omega, rfl, Below.refl _ _, fun j q hj => absurd hj (Nat.not_lt_zero _)⟩
  case round =>
    obtain ⟨k, hk, rfl, HB, HA⟩ := hrel
    by_cases hlt : k < l.length
    · obtain ⟨x, hx⟩ : ∃ x, l[k]? = some x := ⟨_, List.getElem?_eq_getElem hlt⟩
      obtain ⟨b, o, rfl, h4, h5, h6⟩ := h3 (by omega)
      have K := (h6 k x hx).below HB.out h5
      have HC := HP.out wr x (List.mem_of_getElem? hx) HB.out
      have HX := Lib.hid hx
      have q1 : (0 : Int) ≤ (k : Int) := by omega
      have q2 : (k : Int) < (l.length : Int) := by omega
      obtain ⟨k0, k1, k2, k3, k4, k5, k6, k7, k8, k9⟩ := K
      clear hx h6 HP
      cases hq : t x with
      | true =>
        rw [hq] at HC
        have HQ := Lib.hid hq
        clear hq
        go_wp2_with (go_at_fn g; (with_reducible refine HC.mono ?_); rintro e w' ⟨rfl, hb'⟩)
        go_ret
        refine ⟨?_, hb'⟩
        rw [fnI_hit HX.out HQ.out HA.out]; rfl
      | false =>
        rw [hq] at HC
        have HQ := Lib.hid hq
        clear hq
        go_wp2_with (go_at_fn g; (with_reducible refine HC.mono ?_); rintro e w' ⟨rfl, hb'⟩)
        go_roundw
        case rel =>
          refine ⟨k + 1, by omega, by go_num, hb', fun j q hj hq => ?_⟩
          rcases Nat.lt_or_ge j k with e | e
          · exact HA.out j q e hq
          · have : j = k := by omega
            subst this
            rw [HX.out] at hq; injection hq with hq; subst hq; exact HQ.out
        case measure => simp [intOf]; omega
    · obtain rfl : k = l.length := by omega
      go_wp2_with fail
      go_ret
      exact ⟨by rw [fnI_miss HA.out]; rfl, HB.out⟩

end Go.Proofs.Ytppmjbnhghaffaa
namespace Go.Proofs.Ytppmjbnhghaffaa
open Go.RowKit Go.Lib

theorem enV_len (e : En) : (enV e).length = 4 := rfl
def EnIn (w : World) (b o : Nat) (p : En) : Prop := w.cell? ⟨b, o, none⟩ = some (.bool p.ad.v6) ∧ w.cell? ⟨b, o + 1, none⟩ = some (.int .u64 p.ad.hi) ∧ w.cell? ⟨b, o + 2, none⟩ = some (.int .u64 p.ad.lo) ∧ w.cell? ⟨b, o + 3, none⟩ = some (.int .i64 p.port)
theorem ens_open {w : World} {v : Value} {l : List En} (h : ReadsL enV 4 w v l) : l.length ≤ 9223372036854775807 ∧ ∃ (a : Option Addr) (c : Nat), v = .slice a l.length c ∧ (0 < l.length → ∃ b o, a = some ⟨b, o, none⟩ ∧ l.length ≤ c ∧ b < w.heap.size ∧
      ∀ (i : Nat) (p : En), l[i]? = some p → EnIn w b (o + i * 4) p) := by
  obtain ⟨h1, a, c, h2, h3⟩ := h.open enV_len (by omega)
  refine ⟨h1, a, c, h2, fun hp => ?_⟩
  obtain ⟨b, o, h4, h5, h6, h7⟩ := h3 hp
  refine ⟨b, o, h4, h5, h6, fun i x hi => ⟨?_, ?_, ?_, ?_⟩⟩
  · have := h7 i x hi 0 _ rfl; simpa [Nat.add_assoc] using this
  · have := h7 i x hi 1 _ rfl; simpa [Nat.add_assoc] using this
  · have := h7 i x hi 2 _ rfl; simpa [Nat.add_assoc] using this
  · have := h7 i x hi 3 _ rfl; simpa [Nat.add_assoc] using this
theorem EnIn.below {B : Nat} {w w' : World} {b o : Nat} {p : En} (h : EnIn w b o p) (hb : Below B w w') (hlt : b < B) : EnIn w' b o p := by
  obtain ⟨a0, a1, a2, a3⟩ := h
  exact ⟨keep hb hlt a0, keep hb hlt a1, keep hb hlt a2, keep hb hlt a3⟩
def ixE (l : List En) (e : En) : Int := match l.findIdx? (fun q => decide (e = q)) with | some i => (i : Int) | none => -1
def hasE (l : List En) (e : En) : Bool := decide (e ∈ l)
theorem ixE_has (l : List En) (e : En) : decide (0 ≤ ixE l e) = hasE l e := by
  unfold ixE hasE
  cases h : l.findIdx? (fun q => decide (e = q)) with
  | none =>
    rw [List.findIdx?_eq_none_iff] at h
    have : ¬ e ∈ l := fun he => by have := h e he; simp at this
    simp [this]
  | some i =>
    rw [List.findIdx?_eq_some_iff_getElem] at h
    obtain ⟨hi, h1, _⟩ := h
    have : e ∈ l := by rw [of_decide_eq_true h1]; exact List.getElem_mem _
    simp [this]
theorem ixE_hit {l : List En} {e : En} {k : Nat} (hp : l[k]? = some e) (hA : ∀ j q, j < k → l[j]? = some q → e ≠ q) : ixE l e = k := by
  unfold ixE
  have : l.findIdx? (fun q => decide (e = q)) = some k := by
    rw [List.findIdx?_eq_some_iff_getElem]
    obtain ⟨hk, hk2⟩ := List.getElem?_eq_some_iff.1 hp
    exact ⟨hk, by rw [hk2]; simp, fun j hj => by simpa using hA j _ hj (List.getElem?_eq_getElem (by omega))⟩
  rw [this]
theorem ixE_miss {l : List En} {e : En} (hA : ∀ j q, j < l.length → l[j]? = some q → e ≠ q) : ixE l e = -1 := by
  unfold ixE
  have : l.findIdx? (fun q => decide (e = q)) = none := by
    rw [List.findIdx?_eq_none_iff]
    intro q hq
    obtain ⟨j, hj⟩ := List.mem_iff_getElem?.1 hq
    simpa using hA j q (List.getElem?_eq_some_iff.1 hj).1 hj
  rw [this]
set_option maxRecDepth 100000 in
set_option maxHeartbeats 4000000 in
theorem enIndex_any (v : Value) (l : List En) (en : En) (w : World) (h : ReadsL enV 4 w v l) :
    Calls Try.prog 139 #[v, .agg #[.bool en.ad.v6, .int .u64 en.ad.hi, .int .u64 en.ad.lo, .int .i64 en.port]] w fun e w' => e = .returned (.int .i64 (ixE l en)) ∧ Below w.heap.size w w' := by
  obtain ⟨hm, p, c, rfl, h3⟩ := ens_open h
  clear h
  have mixed : Try.prog.follows .mixedOrders = true := by kernel_rfl
  have HBk : Hid (BlockIs (w.alloc (.cells #[.bool en.ad.v6, .int .u64 en.ad.hi, .int .u64 en.ad.lo, .int .i64 en.port] 34)) w.heap.size [.bool en.ad.v6, .int .u64 en.ad.hi, .int .u64 en.ad.lo, .int .i64 en.port] 34) := BlockIs.new w [.bool en.ad.v6, .int .u64 en.ad.hi, .int .u64 en.ad.lo, .int .i64 en.port] _
  have HB0 : Hid (Below w.heap.size w (w.alloc (.cells #[.bool en.ad.v6, .int .u64 en.ad.hi, .int .u64 en.ad.lo, .int .i64 en.port] 34))) := (Below.refl _ _).alloc (Nat.le_refl _) _
  go_enter Try.func139, Try.ntmps139
  go_wp2_with fail
  go_loopw [5, 8] (fun _ i' wr => ∃ k : Nat, k ≤ l.length ∧ i' = .int .i64 k ∧ Hid (BlockIs wr w.heap.size [.bool en.ad.v6, .int .u64 en.ad.hi, .int .u64 en.ad.lo, .int .i64 en.port] 34) ∧ Hid (Below w.heap.size w wr) ∧ Hid (∀ j q, j < k → l[j]? = some q → en ≠ q)) (fun _ i' _ => l.length - (intOf i').toNat)
  case atStart => exact ⟨0, by omega, rfl, HBk.out, HB0.out, fun j q hj => absurd hj (Nat.not_lt_zero _)⟩
  case round =>
    clear HBk HB0
    obtain ⟨k, hk, rfl, HP, HB, HA⟩ := hrel
    by_cases hlt : k < l.length
    · obtain ⟨x, hx⟩ : ∃ x, l[k]? = some x := ⟨_, List.getElem?_eq_getElem hlt⟩
      obtain ⟨b, o, rfl, h4, h5, h6⟩ := h3 (by omega)
      have hbl := Nat.lt_of_lt_of_le h5 HB.out.size
      have KX : ∀ Y, EnIn (Go.Proofs.Ytppmjbnhghaffaa.ext wr Y) b (o + k * 4) x := fun Y => ((h6 k x hx).below HB.out h5).below (ext_below wr Y) hbl
      have KP : ∀ Y i u, [.bool en.ad.v6, .int .u64 en.ad.hi, .int .u64 en.ad.lo, .int .i64 en.port][i]? = some u → (Go.Proofs.Ytppmjbnhghaffaa.ext wr Y).cell? ⟨w.heap.size, i, none⟩ = some u := fun Y i u hu => (HP.out.below (ext_below wr Y)).cell hu
      have x0 := fun Y => (KX Y).1; have x1 := fun Y => (KX Y).2.1; have x2 := fun Y => (KX Y).2.2.1; have x3 := fun Y => (KX Y).2.2.2
      have y0 := fun Y => KP Y 0 _ rfl; have y1 := fun Y => KP Y 1 _ rfl; have y2 := fun Y => KP Y 2 _ rfl; have y3 := fun Y => KP Y 3 _ rfl
      have hE := eqlEn en x
      have HX := Lib.hid hx
      have q1 : (0 : Int) ≤ (k : Int) := by omega
      have q2 : (k : Int) < (l.length : Int) := by omega
      clear hx h6 KX KP
      by_cases hq : en = x
      · have hqd : decide (en = x) = true := decide_eq_true hq
        rw [hqd] at hE
        have HQ := Lib.hid hq
        clear hq hqd
        go_wp2_with fail
        refine wp_region_ext (by kernel_rfl) (by kernel_rfl) ?_
        repeat (go_big_quiet_step (fail))
        refine wpQuiet_nil ?_
        intro _ hw'
        obtain ⟨gx, HW⟩ := hw'
        subst HW
        clear x0 x1 x2 x3 y0 y1 y2 y3
        go_wp2_with fail
        go_ret
        refine ⟨?_, HB.out.trans ((ext_below wr gx).mono HB.out.size)⟩
        rw [ixE_hit (by rw [HQ.out]; exact HX.out) HA.out]; rfl
      · have hqd : decide (en = x) = false := decide_eq_false hq
        rw [hqd] at hE
        have HQ := Lib.hid hq
        clear hq hqd
        go_wp2_with fail
        refine wp_region_ext (by kernel_rfl) (by kernel_rfl) ?_
        repeat (go_big_quiet_step (fail))
        refine wpQuiet_nil ?_
        intro _ hw'
        obtain ⟨gx, HW⟩ := hw'
        subst HW
        clear x0 x1 x2 x3 y0 y1 y2 y3
        go_wp2_with fail
        go_roundw
        case rel =>
          refine ⟨k + 1, by omega, by go_num, HP.out.below (ext_below wr gx), HB.out.trans ((ext_below wr gx).mono HB.out.size), fun j q hj hq => ?_⟩
          rcases Nat.lt_or_ge j k with e | e
          · exact HA.out j q e hq
          · have : j = k := by omega
            subst this
            rw [HX.out] at hq; injection hq with hq; subst hq; exact HQ.out
        case measure => simp [intOf]; omega
    · obtain rfl : k = l.length := by omega
      go_wp2_with fail
      go_ret
      exact ⟨by rw [ixE_miss HA.out]; rfl, HB.out⟩
set_option maxRecDepth 100000 in
set_option maxHeartbeats 4000000 in
theorem enContains_any (v : Value) (l : List En) (en : En) (w : World) (h : ReadsL enV 4 w v l) :
    Calls Try.prog 103 #[v, .agg #[.bool en.ad.v6, .int .u64 en.ad.hi, .int .u64 en.ad.lo, .int .i64 en.port]] w fun e w' => e = .returned (.bool (hasE l en)) ∧ Below w.heap.size w w' := by
  have HB0 : Hid (Below w.heap.size w (w.alloc (.cells #[.bool en.ad.v6, .int .u64 en.ad.hi, .int .u64 en.ad.lo, .int .i64 en.port] 34))) := (Below.refl _ _).alloc (Nat.le_refl _) _
  have hI := enIndex_any v l en _ (ReadsL.below h HB0.out)
  have hx := ixE_has l en
  generalize ixE l en = z at *
  rw [← hx]
  have HI := Lib.hid hI
  clear hI hx h
  go_enter Try.func103, Try.ntmps103
  go_wp2_with (go_at_call 139; (with_reducible refine HI.out.mono ?_); rintro e w1 ⟨rfl, b1⟩)
  go_ret
  exact ⟨rfl, below2 HB0.out b1⟩
set_option maxRecDepth 100000 in
set_option maxHeartbeats 4000000 in
theorem refHas_any (v : Value) (l : List En) (en : En) (w : World) (h : ReadsL enV 4 w v l) :
    Calls Try.prog 104 #[v, .agg #[.bool en.ad.v6, .int .u64 en.ad.hi, .int .u64 en.ad.lo, .int .i64 en.port]] w fun e w' => e = .returned (.bool (hasE l en)) ∧ Below w.heap.size w w' := by
  obtain ⟨hm, p, c, rfl, h3⟩ := ens_open h
  clear h
  have mixed : Try.prog.follows .mixedOrders = true := by kernel_rfl
  have HBk : Hid (BlockIs (w.alloc (.cells #[.bool en.ad.v6, .int .u64 en.ad.hi, .int .u64 en.ad.lo, .int .i64 en.port] 34)) w.heap.size [.bool en.ad.v6, .int .u64 en.ad.hi, .int .u64 en.ad.lo, .int .i64 en.port] 34) := BlockIs.new w [.bool en.ad.v6, .int .u64 en.ad.hi, .int .u64 en.ad.lo, .int .i64 en.port] _
  have HB0 : Hid (Below w.heap.size w (w.alloc (.cells #[.bool en.ad.v6, .int .u64 en.ad.hi, .int .u64 en.ad.lo, .int .i64 en.port] 34))) := (Below.refl _ _).alloc (Nat.le_refl _) _
  go_enter Try.func104, Try.ntmps104
  go_wp2_with fail
  go_loopw [5] (fun i' wr => ∃ k : Nat, k ≤ l.length ∧ i' = .int .i64 k ∧ Hid (BlockIs wr w.heap.size [.bool en.ad.v6, .int .u64 en.ad.hi, .int .u64 en.ad.lo, .int .i64 en.port] 34) ∧ Hid (Below w.heap.size w wr) ∧ Hid (∀ j q, j < k → l[j]? = some q → q ≠ en)) (fun i' _ => l.length - (intOf i').toNat)
  case atStart => exact ⟨0, by omega, rfl, HBk.out, HB0.out, fun j q hj => absurd hj (Nat.not_lt_zero _)⟩
  case round =>
    clear HBk HB0
    obtain ⟨k, hk, rfl, HP, HB, HA⟩ := hrel
    by_cases hlt : k < l.length
    · obtain ⟨x, hx⟩ : ∃ x, l[k]? = some x := ⟨_, List.getElem?_eq_getElem hlt⟩
      obtain ⟨b, o, rfl, h4, h5, h6⟩ := h3 (by omega)
      have hbl := Nat.lt_of_lt_of_le h5 HB.out.size
      have KX : ∀ Y, EnIn (Go.Proofs.Ytppmjbnhghaffaa.ext wr Y) b (o + k * 4) x := fun Y => ((h6 k x hx).below HB.out h5).below (ext_below wr Y) hbl
      have KP : ∀ Y i u, [.bool en.ad.v6, .int .u64 en.ad.hi, .int .u64 en.ad.lo, .int .i64 en.port][i]? = some u → (Go.Proofs.Ytppmjbnhghaffaa.ext wr Y).cell? ⟨w.heap.size, i, none⟩ = some u := fun Y i u hu => (HP.out.below (ext_below wr Y)).cell hu
      have x0 := fun Y => (KX Y).1; have x1 := fun Y => (KX Y).2.1; have x2 := fun Y => (KX Y).2.2.1; have x3 := fun Y => (KX Y).2.2.2
      have y0 := fun Y => KP Y 0 _ rfl; have y1 := fun Y => KP Y 1 _ rfl; have y2 := fun Y => KP Y 2 _ rfl; have y3 := fun Y => KP Y 3 _ rfl
      have hE := eqlEn x en
      have HX := Lib.hid hx
      have q1 : (0 : Int) ≤ (k : Int) := by omega
      have q2 : (k : Int) < (l.length : Int) := by omega
      clear hx h6 KX KP
      by_cases hq : x = en
      · have hqd : decide (x = en) = true := decide_eq_true hq
        rw [hqd] at hE
        have HQ := Lib.hid hq
        clear hq hqd
        go_wp2_with fail
        refine wp_region_ext (by kernel_rfl) (by kernel_rfl) ?_
        repeat (go_big_quiet_step (fail))
        refine wpQuiet_nil ?_
        intro _ hw'
        obtain ⟨gx, HW⟩ := hw'
        subst HW
        clear x0 x1 x2 x3 y0 y1 y2 y3
        go_wp2_with fail
        go_ret
        refine ⟨?_, HB.out.trans ((ext_below wr gx).mono HB.out.size)⟩
        have : hasE l en = true := by unfold hasE; rw [← HQ.out]; exact decide_eq_true (List.mem_of_getElem? HX.out)
        rw [this]; rfl
      · have hqd : decide (x = en) = false := decide_eq_false hq
        rw [hqd] at hE
        have HQ := Lib.hid hq
        clear hq hqd
        go_wp2_with fail
        refine wp_region_ext (by kernel_rfl) (by kernel_rfl) ?_
        repeat (go_big_quiet_step (fail))
        refine wpQuiet_nil ?_
        intro _ hw'
        obtain ⟨gx, HW⟩ := hw'
        subst HW
        clear x0 x1 x2 x3 y0 y1 y2 y3
        go_wp2_with fail
        go_roundw
        case rel =>
          refine ⟨k + 1, by omega, by go_num, HP.out.below (ext_below wr gx), HB.out.trans ((ext_below wr gx).mono HB.out.size), fun j q hj hq => ?_⟩
          rcases Nat.lt_or_ge j k with e | e
          · exact HA.out j q e hq
          · have : j = k := by omega
            subst this
            rw [HX.out] at hq; injection hq with hq; subst hq; exact HQ.out
        case measure => simp [intOf]; omega
    · obtain rfl : k = l.length := by omega
      have hno : hasE l en = false := by
        unfold hasE
        refine decide_eq_false fun he => ?_
        obtain ⟨j, hj⟩ := List.mem_iff_getElem?.1 he
        exact HA.out j en (List.getElem?_eq_some_iff.1 hj).1 hj rfl
      have HN := Lib.hid hno
      clear hno
      go_wp2_with fail
      go_ret
      exact ⟨by rw [HN.out]; rfl, HB.out⟩
end Go.Proofs.Ytppmjbnhghaffaa
namespace Go.Proofs.Ytppmjbnhghaffaa
open Go.RowKit

/-- how many may come, the quotas, the secret -/
structure St where
  most : Int
  q : Qu
  s : Nat
def St.fits (t : St) : Prop := (-9223372036854775808 ≤ t.most ∧ t.most ≤ 9223372036854775807) ∧ t.q.fits ∧ t.s < 18446744073709551616
theorem reads_blk {w : World} {B size : Nat} {us : List Value} {T : TypeId} (h : BlockIs w B us T) (hl : us.length = size) (hs : 0 < size) : Reads w (.slice (some ⟨B, 0, none⟩) 1 1) 1 size us :=
  ⟨by omega, by omega, Or.inr ⟨by omega, B, 0, 1, rfl, by omega, h.lt, fun j x hj => by rw [Nat.zero_add]; exact h.cell hj⟩⟩
end Go.Proofs.Ytppmjbnhghaffaa
namespace Go.Proofs.Ytppmjbnhghaffaa

section
variable {α : Type} {lt : α → α → Bool}
/-- rising, none twice -/
def Strict (lt : α → α → Bool) (l : List α) : Prop := l.Pairwise fun x y => lt x y = true
theorem strict_sput (h : WO lt) (x : α) : ∀ {l : List α}, Strict lt l → (∀ y ∈ l, lt x y = true ∨ lt y x = true) → Strict lt (sput lt x l)
  | [], _, _ => List.pairwise_singleton _ _
  | y :: r, hl, hd => by
    have h1 := List.pairwise_cons.1 hl
    unfold sput
    cases hxy : lt x y with
    | true =>
      rw [if_pos rfl]
      refine List.pairwise_cons.2 ⟨fun z hz => ?_, hl⟩
      rcases List.mem_cons.1 hz with rfl | hz
      · exact hxy
      · exact h.tr hxy (h1.1 z hz)
    | false =>
      rw [if_neg (by simp)]
      refine List.pairwise_cons.2 ⟨fun z hz => ?_, strict_sput h x h1.2 fun z hz => hd z (List.mem_cons_of_mem _ hz)⟩
      rcases sput_mem.1 hz with rfl | hz
      · rcases hd y (List.mem_cons_self ..) with e | e
        · rw [hxy] at e; cases e
        · exact e
      · exact h1.1 z hz
theorem ssortT_mem {l : List α} {y : α} : y ∈ ssort lt l ↔ y ∈ l := by
  rw [← List.reverse_reverse l]
  induction l.reverse with
  | nil => simp [ssort]
  | cons x r ih => rw [List.reverse_cons, ssort_snoc, sput_mem, ih]; simp [or_comm]
theorem strict_ssort (h : WO lt) : ∀ {l : List α}, l.Pairwise (fun x y => lt x y = true ∨ lt y x = true) → Strict lt (ssort lt l) := by
  intro l
  rw [← List.reverse_reverse l]
  induction l.reverse with
  | nil => intro _; exact List.Pairwise.nil
  | cons x r ih =>
    intro hp
    rw [List.reverse_cons] at hp ⊢
    rw [List.pairwise_append] at hp
    rw [ssort_snoc]
    refine strict_sput h x (ih hp.1) fun y hy => ?_
    rcases hp.2.2 y (ssortT_mem.1 hy) x (by simp) with e | e
    · exact Or.inr e
    · exact Or.inl e
theorem WO.ir (h : WO lt) (a : α) : lt a a = false := by
  cases e : lt a a with
  | false => rfl
  | true => have := h.asy e; rw [e] at this; cases this
/-- two that rise and hold the same are one -/
theorem strictT_eq (h : WO lt) : ∀ {A B : List α}, Strict lt A → Strict lt B → (∀ z, z ∈ A ↔ z ∈ B) → A = B
  | [], [], _, _, _ => rfl
  | [], y :: r, _, _, hm => by have := (hm y).2 (by simp); simp at this
  | x :: r, [], _, _, hm => by have := (hm x).1 (by simp); simp at this
  | x :: r, y :: s, hA, hB, hm => by
    have h1 := List.pairwise_cons.1 hA
    have h2 := List.pairwise_cons.1 hB
    have hxy : x = y := by
      rcases List.mem_cons.1 ((hm x).1 (by simp)) with e | e
      · exact e
      · rcases List.mem_cons.1 ((hm y).2 (by simp)) with e' | e'
        · exact e'.symm
        · have a := h1.1 y e'; have b := h2.1 x e
          rw [h.asy a] at b; cases b
    subst hxy
    congr 1
    refine strictT_eq h h1.2 h2.2 fun z => ⟨fun hz => ?_, fun hz => ?_⟩
    · rcases List.mem_cons.1 ((hm z).1 (List.mem_cons_of_mem _ hz)) with e | e
      · subst e; have := h1.1 z hz; rw [h.ir] at this; cases this
      · exact e
    · rcases List.mem_cons.1 ((hm z).2 (List.mem_cons_of_mem _ hz)) with e | e
      · subst e; have := h2.1 z hz; rw [h.ir] at this; cases this
      · exact e
end
instance (a : List Pe) (x : Pe) : Decidable (∀ y ∈ a, y.en ≠ x.en) := inferInstance
def ltEn (a b : Pe) : Bool := decide (enCmp a.en b.en < 0)
theorem ltEn_or {a b : Pe} (h : a.en ≠ b.en) : ltEn a b = true ∨ ltEn b a = true := by
  have e := cmp_en.neg a.en b.en
  by_cases h0 : enCmp a.en b.en = 0
  · exact absurd (enCmp_zero h0) h
  · unfold ltEn
    by_cases h1 : enCmp a.en b.en < 0
    · exact Or.inl (decide_eq_true h1)
    · exact Or.inr (decide_eq_true (by omega))
end Go.Proofs.Ytppmjbnhghaffaa
namespace Go.Proofs.Ytppmjbnhghaffaa

/-- what a right table is -/
def GoodT (l : List Pe) : Prop := ∀ (i : Nat) (x : Pe), l[i]? = some x → peRight x = true ∧ ∀ (j : Nat) (y : Pe), j < i → l[j]? = some y → enCmp y.en x.en < 0
theorem goodT_next {l : List Pe} (h : ∀ (i : Nat) (x : Pe), l[i]? = some x → peRight x = true ∧ ∀ (j : Nat) (y : Pe), j + 1 = i → l[j]? = some y → enCmp y.en x.en < 0) : GoodT l := by
  intro i
  induction i with
  | zero => exact fun x hx => ⟨(h 0 x hx).1, fun j y hj => by omega⟩
  | succ i ih =>
    intro x hx
    refine ⟨(h _ x hx).1, fun j y hj hy => ?_⟩
    obtain ⟨z, hz⟩ : ∃ z, l[i]? = some z := ⟨_, List.getElem?_eq_getElem (by have := (List.getElem?_eq_some_iff.1 hx).1; omega)⟩
    have h1 := (h _ x hx).2 i z rfl hz
    rcases Nat.lt_or_ge j i with hlt | hge
    · exact cmp_en.le_eq ((ih z hz).2 j y hlt hy) (by omega)
    · obtain rfl : j = i := by omega
      rw [hz] at hy; injection hy with hy; subst hy; exact h1
theorem goodT_iff (l : List Pe) : GoodT l ↔ (∀ x ∈ l, peRight x = true) ∧ l.Pairwise fun a b => enCmp a.en b.en < 0 := by
  constructor
  · intro h
    refine ⟨fun x hx => ?_, ?_⟩
    · obtain ⟨i, hi⟩ := List.mem_iff_getElem?.1 hx
      exact (h i x hi).1
    · rw [List.pairwise_iff_getElem]
      intro i j hi hj hij
      exact (h j _ (List.getElem?_eq_getElem hj)).2 i _ hij (List.getElem?_eq_getElem hi)
  · intro ⟨h1, h2⟩ i x hx
    rw [List.pairwise_iff_getElem] at h2
    obtain ⟨hi, rfl⟩ := List.getElem?_eq_some_iff.1 hx
    refine ⟨h1 _ (List.getElem_mem _), fun j y hj hy => ?_⟩
    obtain ⟨hj', rfl⟩ := List.getElem?_eq_some_iff.1 hy
    exact h2 j i hj' hi hj
end Go.Proofs.Ytppmjbnhghaffaa
