/- A map of counts, whatever its keys: looked up, and one more counted. Conditions: the counts are numbers of 64 bits, and the map has room. -/
import Derived.Maps.Own
import Derived.Maps.Views
import Derived.WideKeyEntry
import Derived.DeepKeys4
import Derived.Test.YtppmjbnhghaffaaQ3d1c45ppqqkp
namespace Go.Proofs.Ytppmjbnhghaffaa
open Go.ChangeMaps Go.MapKept
open Go.WideElems (Fit rd rg pl rd_key other_key findIdx_arr findIdx_born modify_last set_self)
open Go.Maps (Keyed)

section
variable {P : Program} {k e t : TypeId} {b : Nat}
/-- so many of each key -/
def CM (P : Program) (k e : TypeId) (es : Array MapEntry) (clock n : Nat) (g : Lit → Int) : Prop :=
  Fit P k (plainElem (H := Unit) P e) es clock ∧ es.size ≤ n ∧ ∀ (key : Value) (kl : Lit), keyOf P k key = some kl → (DataW.map ((es.toList.map (rg P k (plainElem (H := Unit) P e))).foldr DataW.insert [])).atKey kl (.lit (.int .i64 0)) = .lit (.int .i64 (g kl))
theorem cm_zero : CM P k e #[] 0 0 (fun _ => 0) := ⟨⟨by simp, stamped_empty 0, by simp⟩, Nat.le_refl _, fun _ _ _ => rfl⟩
theorem cm_look (K : Keyed P k) (ht : P.underlying t = some (.map k e)) (he : P.underlying e = some (.int .i64)) (hz : ∀ W, (zeroValue e).run P W = .ok (.int .i64 0) W) {es : Array MapEntry} {clock n : Nat} {g : Lit → Int} (h : CM P k e es clock n g) {key : Value} {kl : Lit} (hkey : keyOf P k key = some kl)
    (W : World) (hb : W.heap[b]? = some (.map es clock)) : (Instr.lookup t (.map (some b)) key false).run P W = .ok (.int .i64 (g kl)) W := by
  obtain ⟨F, hs, hat⟩ := h
  have ho : W.ownsMap P k (plainElem (H := Unit) P e) b n _ := ⟨es, clock, hb, F, hs, rfl⟩
  obtain ⟨c, hrun, hc, _⟩ := ho.lookup_int K ht he (hz W) hkey
  rw [hat key kl hkey] at hc
  simp only [DataW.lit.injEq, Lit.int.injEq, true_and] at hc
  rw [hrun, hc]
theorem cm_three (K : Keyed P k) (ht : P.underlying t = some (.map k e)) (he : P.underlying e = some (.int .i64)) (hz : ∀ W, (zeroValue e).run P W = .ok (.int .i64 0) W) {es : Array MapEntry} {clock n : Nat} {g : Lit → Int} (h : CM P k e es clock n g) (hn : n < maxLen) {key : Value} {kl : Lit} (hkey : keyOf P k key = some kl)
    (hw : (Lit.int .i64 (g kl + 1)).wf = true) (W0 : World) (hb0 : W0.heap[b]? = some (.map es clock)) :
    ∃ (v0 : Value) (st : Nat) (es1 : Array MapEntry) (clock1 : Nat) (es2 : Array MapEntry) (clock2 : Nat),
      (∀ W, W.heap[b]? = some (.map es clock) → (Instr.mapEntry t (.map (some b)) key).run P W = .ok (.tuple #[v0, .int .i64 (st : Int)]) (setBlock W b (.map es1 clock1))) ∧
      (∀ W, W.heap[b]? = some (.map es1 clock1) → (Instr.lookup t (.map (some b)) key false).run P W = .ok (.int .i64 (g kl)) W) ∧
      (∀ W, W.heap[b]? = some (.map es1 clock1) → (Instr.entryStore t (.map (some b)) (.int .i64 (st : Int)) (.int .i64 (g kl + 1))).run P W = .ok () (setBlock W b (.map es2 clock2))) ∧
      ∀ g' : Lit → Int, g' kl = g kl + 1 → (∀ x, x ≠ kl → g' x = g x) → CM P k e es2 clock2 (n + 1) g' := by
  have hlook := fun W hb => cm_look (b := b) K ht he hz h hkey W hb
  obtain ⟨F, hs, hat⟩ := h
  have hval : plainElem (H := Unit) P e (.int .i64 (g kl + 1)) = some (.lit (.int .i64 (g kl + 1)), []) := plainElem_int he hw
  obtain ⟨es', clock', hrun', F', hput, _⟩ := Maps.fit_store (R' := plainElem (H := Unit) P e) K ht hb0 F (Nat.lt_of_le_of_lt hs hn) (fun _ _ _ _ hz => hz) hkey hval
  have fin : ∀ (es2 : Array MapEntry) (clock2 : Nat), (Instr.mapUpdate t (.map (some b)) key (.int .i64 (g kl + 1))).run P W0 = .ok () (setBlock W0 b (.map es2 clock2)) → es2.size ≤ n + 1 → ∀ g' : Lit → Int, g' kl = g kl + 1 → (∀ x, x ≠ kl → g' x = g x) → CM P k e es2 clock2 (n + 1) g' := by
    intro es2 clock2 h2 hsz g' hg1 hg2
    rw [hrun'] at h2
    have h3 : setBlock W0 b (.map es' clock') = setBlock W0 b (.map es2 clock2) := by injection h2
    have h4 : some (Obj.map es' clock') = some (Obj.map es2 clock2) := by
      rw [← heap_setBlock_same hb0 (.map es' clock'), h3, heap_setBlock_same hb0]
    injection h4 with h4
    injection h4 with h5 h6
    subst h5 h6
    refine ⟨F', hsz, fun key' kl' hk' => ?_⟩
    rw [hput, ← DataW.put_eq]
    by_cases e1 : kl' = kl
    · subst e1
      rw [hg1]; exact Go.Maps.atKey_put_same ⟨_, rfl⟩ (K.key hkey) _ _
    · rw [hg2 _ e1, Go.Maps.atKey_put_other e1]; exact hat key' kl' hk'
  obtain ⟨s1, s2, _⟩ := F.stamped
  rcases K.find W0 hkey es.toList F.keys with ⟨h1, h2⟩ | ⟨j, e0, h1, h2, h3⟩
  · have hfn : ∀ W, (Instr.findKey k key es.toList).run P W = .ok none W := by
      intro W
      rcases K.find W hkey es.toList F.keys with ⟨q1, _⟩ | ⟨j, e1, _, q2, q3⟩
      · exact q1
      · exact absurd q3 (h2 e1 (List.mem_of_getElem? q2))
    have h0 : g kl = 0 := by
      have := hlook W0 hb0
      simp [Instr.lookup, run_underlying ht, MapKept.run_getObj_map hb0, K.check W0 _ hkey, h1, hz, Result.andThen] at this
      exact this.symm
    refine ⟨.int .i64 0, clock, es.push ⟨key, .int .i64 0, clock⟩, clock + 1, es.push ⟨key, .int .i64 (g kl + 1), clock⟩, clock + 1, fun W hb => ?_, fun W hb => ?_, fun W hb => ?_, fin _ _ ?_ (by simp; omega)⟩
    · simp [Instr.mapEntry, run_underlying ht, MapKept.run_getObj_map hb, K.check W false hkey, hfn W, hz, MapKept.run_setObj_map _ hb, Result.andThen, setBlock, goInt]
    · have hks : ∀ x ∈ (es.push ⟨key, .int .i64 0, clock⟩).toList, ∃ l, keyOf P k x.key = some l := by
        intro x hx
        simp only [Array.toList_push, List.mem_append, List.mem_singleton] at hx
        rcases hx with hx | rfl
        · exact F.keys x hx
        · exact ⟨kl, hkey⟩
      rcases K.find W hkey _ hks with ⟨_, q2⟩ | ⟨j, e1, q1, q2, q3⟩
      · exact absurd rfl (q2 ⟨key, .int .i64 0, clock⟩ (by simp))
      · have hm := List.mem_of_getElem? q2
        simp only [Array.toList_push, List.mem_append, List.mem_singleton] at hm
        rcases hm with hm | hm
        · exact absurd q3 (h2 e1 hm)
        · subst hm
          rw [h0]
          simp only [Array.toList_push] at q1
          simp [Instr.lookup, run_underlying ht, MapKept.run_getObj_map hb, K.check W _ hkey, q1, Result.andThen]
    · have hidx : (es.push ⟨key, .int .i64 0, clock⟩).findIdx? (fun e => ((e.born : Nat) : Int) == ((clock : Nat) : Int)) = some es.size := by
        rw [findIdx_arr]
        have := findIdx_born (l := (es.push ⟨key, .int .i64 0, clock⟩).toList) (j := es.size) (e0 := ⟨key, .int .i64 0, clock⟩) (by
          simp only [Array.toList_push, List.map_append, List.map_cons, List.map_nil]
          refine List.nodup_append.2 ⟨s2, by simp, fun a ha c hc e1 => ?_⟩
          simp only [List.mem_singleton] at hc
          obtain ⟨x, hx, rfl⟩ := List.mem_map.1 ha
          have := s1 x hx
          omega) (by simp)
        exact this
      have hmod : (es.push ⟨key, .int .i64 0, clock⟩).modify es.size (fun e => { e with val := .int .i64 (g kl + 1) }) = es.push ⟨key, .int .i64 (g kl + 1), clock⟩ := by
        apply Array.ext'
        rw [Array.toList_modify, Array.toList_push, Array.toList_push, ← Array.length_toList, modify_last]
      simp [Instr.entryStore, MapKept.run_getObj_map hb, asInt, asIntOf, goInt, hidx, hmod, MapKept.run_setObj_map _ hb, Result.andThen, setBlock]
    · simp [Instr.mapUpdate, run_underlying ht, MapKept.run_getObj_map hb0, K.check W0 false hkey, h1, MapKept.run_setObj_map _ hb0, Result.andThen, setBlock]
  · have hj : es[j]? = some e0 := by simpa using h2
    have hfn : ∀ W, (Instr.findKey k key es.toList).run P W = .ok (some (j, e0.val)) W := by
      intro W
      rcases K.find W hkey es.toList F.keys with ⟨_, q⟩ | ⟨j', e1, q1, q2, q3⟩
      · exact absurd h3 (q e0 (List.mem_of_getElem? h2))
      · by_cases ej : j' = j
        · subst ej
          rw [h2] at q2; injection q2 with q2; subst q2; exact q1
        · exact absurd (q3.trans h3.symm) (other_key F h2 q2 ej)
    have hsame : es.modify j (fun e => { e with key := key }) = es := by
      apply Array.ext'
      rw [Array.toList_modify, modify_eq_set _ _ _ _ h2]
      have : ({ e0 with key := key } : MapEntry) = e0 := by rw [← h3]
      rw [this]
      exact set_self _ _ _ h2
    refine ⟨e0.val, e0.born, es, clock, es.modify j (fun e' => { e' with key := key, val := .int .i64 (g kl + 1) }), clock, fun W hb => ?_, fun W hb => hlook W hb, fun W hb => ?_, fin _ _ ?_ (by simp; omega)⟩
    · simp [Instr.mapEntry, run_underlying ht, MapKept.run_getObj_map hb, K.check W false hkey, hfn W, hj, h3, K.stays W hkey, hsame, MapKept.run_setObj_map _ hb, Result.andThen, setBlock, goInt]
    · have hidx : es.findIdx? (fun e => ((e.born : Nat) : Int) == ((e0.born : Nat) : Int)) = some j := by
        rw [findIdx_arr]
        exact findIdx_born s2 h2
      have hmod : es.modify j (fun e => { e with val := .int .i64 (g kl + 1) }) = es.modify j (fun e' => { e' with key := key, val := .int .i64 (g kl + 1) }) := by
        apply Array.ext'
        rw [Array.toList_modify, Array.toList_modify, modify_eq_set _ _ _ _ h2, modify_eq_set _ _ _ _ h2, ← h3]
      simp [Instr.entryStore, MapKept.run_getObj_map hb, asInt, asIntOf, goInt, hidx, hmod, MapKept.run_setObj_map _ hb, Result.andThen, setBlock]
    · simp [Instr.mapUpdate, run_underlying ht, MapKept.run_getObj_map hb0, K.check W0 false hkey, h1, hj, h3, K.stays W0 hkey, MapKept.run_setObj_map _ hb0, Result.andThen, setBlock]
end
end Go.Proofs.Ytppmjbnhghaffaa
