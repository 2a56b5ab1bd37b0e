/- Texts put together: PlIp6, PlAddr, PlAddrB, PlNet. No condition. -/
import Derived.Test.YtnohkfbapibmdaaGreatReavtgjtnmi
import Derived.Lib.IndexLaws
import Derived.Lib.IndexBytes
import Derived.Test.YtnohkfbapibmdaaGreatRjnnyiclkjh
namespace Go.Proofs.YtnohkfbapibmdaaGreat
open Go.RowKit

/-! ### the first gap: two colons side by side -/
def gapO : List UInt8 → Option Nat
  | [] => none
  | x :: r => if x = 58 ∧ r.head? = some 58 then some 0 else (gapO r).map (· + 1)
def gapI (l : List UInt8) : Int := match gapO l with | none => -1 | some i => i
theorem index_gap (l : List UInt8) : Lib.index l [58, 58] = gapI l := by
  induction l with
  | nil => rfl
  | cons x r ih =>
    unfold Lib.index gapI gapO
    have hp : ([58, 58] : List UInt8).isPrefixOf (x :: r) = decide (x = 58 ∧ r.head? = some 58) := by
      cases r with
      | nil => simp [List.isPrefixOf]
      | cons y r => rw [Bool.eq_iff_iff]; simp [List.isPrefixOf]; exact ⟨fun ⟨a, b⟩ => ⟨a.symm, b.symm⟩, fun ⟨a, b⟩ => ⟨a.symm, b.symm⟩⟩
    rw [hp]
    by_cases h : x = 58 ∧ r.head? = some 58
    · rw [if_pos (by simpa using h), if_pos h]; rfl
    · rw [if_neg (by simpa using h), if_neg h, ih]
      unfold gapI
      cases hg : gapO r with
      | none => rfl
      | some i => simp only [Option.map_some]; rw [if_neg (by simp)]; omega
theorem gapO_none {l : List UInt8} (h : ∀ k : Nat, ¬ (l[k]? = some 58 ∧ l[k + 1]? = some 58)) : gapO l = none := by
  induction l with
  | nil => rfl
  | cons x r ih =>
    unfold gapO
    rw [if_neg (by have := h 0; simpa [List.head?_eq_getElem?] using this), ih (fun k => by have := h (k + 1); simpa using this)]; rfl
theorem gapO_at {l : List UInt8} {i : Nat} (h1 : l[i]? = some 58) (h2 : l[i + 1]? = some 58) (h : ∀ k, k < i → ¬ (l[k]? = some 58 ∧ l[k + 1]? = some 58)) : gapO l = some i := by
  induction l generalizing i with
  | nil => simp at h1
  | cons x r ih =>
    unfold gapO
    cases i with
    | zero => rw [if_pos ⟨by simpa using h1, by simpa [List.head?_eq_getElem?] using h2⟩]
    | succ i =>
      rw [if_neg (by have := h 0 (by omega); simpa [List.head?_eq_getElem?] using this), ih (i := i) (by simpa using h1) (by simpa using h2) (fun k hk => by have := h (k + 1) (by omega); simpa using this)]; rfl
theorem gapO_some {l : List UInt8} {i : Nat} (h : gapO l = some i) : l[i]? = some 58 ∧ l[i + 1]? = some 58 ∧ i + 2 ≤ l.length := by
  induction l generalizing i with
  | nil => cases h
  | cons x r ih =>
    unfold gapO at h
    split at h
    · rename_i hx
      cases h
      obtain ⟨rfl, h2⟩ := hx
      cases r with
      | nil => cases h2
      | cons y r => simp at h2; subst h2; simp
    · cases hg : gapO r with
      | none => rw [hg] at h; cases h
      | some j =>
        rw [hg] at h; simp at h; subst h
        obtain ⟨a, b, c⟩ := ih hg
        exact ⟨by simpa using a, by simpa using b, by simp; omega⟩

/-! ### groups out of parts -/
def fourP (may : Bool) : List (List UInt8) → List Nat → Option (List Nat)
  | [], out => some out
  | p :: r, out =>
    if may = true ∧ r = [] ∧ (v4parse p).2 = true then some (out ++ [(v4parse p).1 / 65536, (v4parse p).1 % 65536])
    else if (hexParse p).2 = false ∨ 8 ≤ out.length then none
    else fourP may r (out ++ [(hexParse p).1.toNat])
def fourL (may : Bool) (l : List UInt8) : Option (List Nat) := if l = [] then some [] else fourP may (splitL 58 l) []
def spreadL (l : List UInt8) : Option (List Nat) := match gapO l with
  | none => fourL true l
  | some i => match fourL false (l.take i), fourL true (l.drop (i + 2)) with
    | some a, some b => if 8 ≤ a.length + b.length then none else some (a ++ List.replicate (8 - a.length - b.length) 0 ++ b)
    | _, _ => none
def numL (l : List Nat) : Nat := l.foldl (fun n g => n * 65536 + g) 0
def v6parse (l : List UInt8) : Nat × Nat × Bool := match spreadL l with
  | none => (0, 0, false)
  | some g => if g.length = 8 then (numL (g.take 4), numL (g.drop 4), true) else (0, 0, false)
/-- as the reference gathers groups -/
def fullP : List (List UInt8) → List Nat → Option (List Nat)
  | [], g => some g
  | p :: r, g =>
    if (hexParse p).2 = true then fullP r (g ++ [(hexParse p).1.toNat])
    else if (v4parse p).2 = true ∧ r = [] then some (g ++ [(v4parse p).1 / 65536, (v4parse p).1 % 65536])
    else none
def fullL (L : List (List UInt8)) : Nat × Nat × Bool := match fullP L [] with
  | none => (0, 0, false)
  | some g => if g.length = 8 ∧ L.length ≤ 8 then (numL (g.take 4), numL (g.drop 4), true) else (0, 0, false)
theorem hex_len {p : List UInt8} (h : (hexParse p).2 = true) : p.length ≤ 4 := by
  unfold hexParse at h
  split at h
  · cases h
  · rename_i hb; omega
theorem v4_excl {p : List UInt8} (h : (v4parse p).2 = true) : (hexParse p).2 = false := by
  obtain ⟨h1, h2⟩ := v4parse_true (l := p) (n := (v4parse p).1) (by rw [← h])
  cases hh : (hexParse p).2 with
  | false => rfl
  | true =>
    have h3 := hex_len hh
    rw [h2] at h3
    have : 7 ≤ (v4text (v4parse p).1).length := by
      unfold v4text v4parts
      rw [joinL_cons, joinL_cons, joinL_cons, joinL_one]
      have a := digs_len_pos ((v4parse p).1 / 16777216)
      have b := digs_len_pos ((v4parse p).1 / 65536 % 256)
      have c := digs_len_pos ((v4parse p).1 / 256 % 256)
      have d := digs_len_pos ((v4parse p).1 % 256)
      simp; omega
    omega
theorem v4_len {p : List UInt8} (h : (v4parse p).2 = true) : p.length ≤ 15 := by
  obtain ⟨h1, h2⟩ := v4parse_true (l := p) (n := (v4parse p).1) (by rw [← h])
  rw [h2]; exact v4text_len _ h1
theorem fullP_app (L : List (List UInt8)) (g : List Nat) : fullP L g = (fullP L []).map (g ++ ·) := by
  induction L generalizing g with
  | nil => simp [fullP]
  | cons p r ih =>
    unfold fullP
    split
    · rw [ih, ih ([] ++ _)]; cases fullP r [] <;> simp
    · split <;> simp
theorem fullP_len {L : List (List UInt8)} {g : List Nat} (h : fullP L [] = some g) : L.length ≤ g.length := by
  have : ∀ (L : List (List UInt8)) (a g : List Nat), fullP L a = some g → a.length + L.length ≤ g.length := by
    intro L
    induction L with
    | nil => intro a g h; simp [fullP] at h; subst h; simp
    | cons p r ih =>
      intro a g h
      unfold fullP at h
      split at h
      · have := ih _ _ h; simp at *; omega
      · split at h
        · rename_i h2; simp at h; subst h; rw [h2.2]; simp
        · cases h
  have := this L [] g h; simpa using this
theorem fourP_full {may : Bool} {L : List (List UInt8)} {a g : List Nat} (h : fourP may L a = some g) : fullP L a = some g := by
  induction L generalizing a with
  | nil => exact h
  | cons p r ih =>
    unfold fourP at h
    unfold fullP
    split at h
    · rename_i h1
      rw [if_neg (by rw [v4_excl h1.2.2]; simp), if_pos ⟨h1.2.2, h1.2.1⟩]; exact h
    · split at h
      · cases h
      · rename_i h2
        have hx : (hexParse p).2 = true := by
          cases hh : (hexParse p).2 with
          | true => rfl
          | false => exact absurd (Or.inl hh) h2
        rw [if_pos hx]; exact ih h
theorem full_fourP {L : List (List UInt8)} {a g : List Nat} (h : fullP L a = some g) (hl : g.length ≤ 8) : fourP true L a = some g := by
  induction L generalizing a with
  | nil => exact h
  | cons p r ih =>
    unfold fullP at h
    unfold fourP
    split at h
    · rename_i hx
      have hle : (a ++ [(hexParse p).1.toNat]).length ≤ g.length := by
        have hh := h
        rw [fullP_app] at hh
        cases hf : fullP r [] with
        | none => rw [hf] at hh; cases hh
        | some q => rw [hf] at hh; simp at hh; subst hh; simp
      rw [if_neg (by rintro ⟨_, _, h3⟩; rw [v4_excl h3] at hx; cases hx), if_neg (by
        rintro (h1 | h1)
        · rw [h1] at hx; cases hx
        · simp at hle; omega)]
      exact ih h
    · split at h
      · rename_i h2; rw [if_pos ⟨rfl, h2.2, h2.1⟩]; exact h
      · cases h
/-- parts that are all hex -/
theorem fourP_hex {L : List (List UInt8)} {a g : List Nat} : fourP false L a = some g ↔ ((∀ p ∈ L, (hexParse p).2 = true) ∧ g = a ++ L.map (fun p => (hexParse p).1.toNat) ∧ (L ≠ [] → a.length + L.length ≤ 8)) := by
  induction L generalizing a with
  | nil => simp [fourP]; exact ⟨fun h => h.symm, fun h => h.symm⟩
  | cons p r ih =>
    unfold fourP
    rw [if_neg (by simp)]
    by_cases hb : (hexParse p).2 = false ∨ 8 ≤ a.length
    · rw [if_pos hb]
      constructor
      · intro h; cases h
      · rintro ⟨h1, _, h3⟩
        rcases hb with hb | hb
        · have := h1 p (by simp); rw [hb] at this; cases this
        · have := h3 (by simp); simp at this; omega
    · rw [if_neg hb, ih]
      have hx : (hexParse p).2 = true := by
        cases hh : (hexParse p).2 with
        | true => rfl
        | false => exact absurd (Or.inl hh) hb
      have ha : a.length < 8 := by
        rcases Nat.lt_or_ge a.length 8 with h | h
        · exact h
        · exact absurd (Or.inr h) hb
      constructor
      · rintro ⟨h1, h2, h3⟩
        refine ⟨?_, by rw [h2]; simp, fun _ => ?_⟩
        · intro q hq
          rcases List.mem_cons.1 hq with rfl | hq
          · exact hx
          · exact h1 q hq
        · by_cases hr : r = []
          · subst hr; simp; omega
          · have := h3 hr; simp at *; omega
      · rintro ⟨h1, h2, h3⟩
        exact ⟨fun q hq => h1 q (by simp [hq]), by rw [h2]; simp, fun _ => by have := h3 (by simp); simp at *; omega⟩
theorem fullP_hex {L M : List (List UInt8)} (h : ∀ p ∈ L, (hexParse p).2 = true) (a : List Nat) : fullP (L ++ M) a = fullP M (a ++ L.map (fun p => (hexParse p).1.toNat)) := by
  induction L generalizing a with
  | nil => simp
  | cons p r ih =>
    rw [List.cons_append]
    conv => lhs; unfold fullP
    rw [if_pos (h p (by simp)), ih (fun q hq => h q (by simp [hq]))]; simp
theorem fullP_bad {L M : List (List UInt8)} (hM : M ≠ []) (h : ¬ ∀ p ∈ L, (hexParse p).2 = true) (a : List Nat) : fullP (L ++ M) a = none := by
  induction L generalizing a with
  | nil => exact absurd (by simp) h
  | cons p r ih =>
    rw [List.cons_append]
    unfold fullP
    by_cases hp : (hexParse p).2 = true
    · rw [if_pos hp]
      exact ih (fun hr => h (fun q hq => by rcases List.mem_cons.1 hq with rfl | hq; exact hp; exact hr q hq)) _
    · rw [if_neg hp, if_neg (by rintro ⟨_, h2⟩; have := congrArg List.length h2; simp at this; exact hM this.2)]

/-- the reference's parts: none of an empty text -/
def partsL (l : List UInt8) : List (List UInt8) := if l = [] then [] else splitL 58 l
def zerosP (k : Nat) : List (List UInt8) := List.replicate k [48]
theorem hex_zero : hexParse [48] = (0, true) := by decide +kernel
theorem zerosP_hex (k : Nat) : ∀ p ∈ zerosP k, (hexParse p).2 = true := fun p hp => by
  rw [List.eq_of_mem_replicate hp, hex_zero]
theorem zerosP_map (k : Nat) : (zerosP k).map (fun p => (hexParse p).1.toNat) = List.replicate k 0 := by
  unfold zerosP; rw [List.map_replicate, hex_zero]; rfl
/-- the reference tries each number of groups that may be left out -/
def refTry (pa pb : List (List UInt8)) : Nat → Nat → Nat × Nat × Bool
  | 0, _ => (0, 0, false)
  | n + 1, k => if (fullL (pa ++ zerosP k ++ pb)).2.2 = true then fullL (pa ++ zerosP k ++ pb) else refTry pa pb n (k + 1)
def refParse6 (l : List UInt8) : Nat × Nat × Bool :=
  if 60 < l.length then (0, 0, false) else match gapO l with
  | none => fullL (partsL l)
  | some i => if partsL (l.take i) ≠ [] ∧ partsL (l.drop (i + 2)) = [] ∧ (hexParse ((partsL (l.take i)).getLastD [])).2 = false then (0, 0, false) else refTry (partsL (l.take i)) (partsL (l.drop (i + 2))) 8 1
theorem fourL_true (l : List UInt8) : fourL true l = fourP true (partsL l) [] := by
  unfold fourL partsL; split <;> rfl
theorem fourL_false (l : List UInt8) : fourL false l = fourP false (partsL l) [] := by
  unfold fourL partsL; split <;> rfl
theorem nogap_eq (l : List UInt8) : (match fourL true l with | none => (0, 0, false) | some g => if g.length = 8 then (numL (g.take 4), numL (g.drop 4), true) else (0, 0, false)) = fullL (partsL l) := by
  rw [fourL_true]; unfold fullL
  cases hp : fourP true (partsL l) [] with
  | some g =>
    rw [fourP_full hp]; simp only
    by_cases h8 : g.length = 8
    · rw [if_pos h8, if_pos ⟨h8, by have := fullP_len (fourP_full hp); omega⟩]
    · rw [if_neg h8, if_neg (fun h => h8 h.1)]
  | none =>
    cases hf : fullP (partsL l) [] with
    | none => rfl
    | some g =>
      simp only
      rw [if_neg]
      rintro ⟨h8, _⟩
      rw [full_fourP hf (by omega)] at hp; cases hp
theorem fullL_gap (pa pb : List (List UInt8)) (k : Nat) (hk : 1 ≤ k) (a b : List Nat) (ha : fourP false pa [] = some a) (hb : fourP true pb [] = some b) :
    fullL (pa ++ zerosP k ++ pb) = if a.length + k + b.length = 8 then (numL ((a ++ List.replicate k 0 ++ b).take 4), numL ((a ++ List.replicate k 0 ++ b).drop 4), true) else (0, 0, false) := by
  obtain ⟨h1, h2, _⟩ := fourP_hex.1 ha
  have hf : fullP (pa ++ zerosP k ++ pb) [] = some (a ++ List.replicate k 0 ++ b) := by
    rw [List.append_assoc, fullP_hex h1, ← h2, fullP_hex (zerosP_hex k), zerosP_map, fullP_app, fourP_full hb]; simp
  unfold fullL; rw [hf]; simp only
  by_cases h8 : a.length + k + b.length = 8
  · have l1 := fullP_len (fourP_full hb)
    have l2 : pa.length = a.length := by rw [h2]; simp
    rw [if_pos h8, if_pos ⟨by simp; omega, by simp [zerosP]; omega⟩]
  · rw [if_neg h8, if_neg]; rintro ⟨h, _⟩; simp at h; omega
theorem refTry_hit (pa pb : List (List UInt8)) (a b : List Nat) (ha : fourP false pa [] = some a) (hb : fourP true pb [] = some b) :
    ∀ (n k : Nat), 1 ≤ k → k + n = 9 → refTry pa pb n k = if a.length + k + b.length ≤ 8 then (numL ((a ++ List.replicate (8 - a.length - b.length) 0 ++ b).take 4), numL ((a ++ List.replicate (8 - a.length - b.length) 0 ++ b).drop 4), true) else (0, 0, false) := by
  intro n
  induction n with
  | zero => intro k h1 h2; unfold refTry; rw [if_neg (by omega)]
  | succ n ih =>
    intro k h1 h2
    unfold refTry
    rw [fullL_gap pa pb k h1 a b ha hb]
    by_cases h8 : a.length + k + b.length = 8
    · rw [if_pos h8, if_pos rfl, if_pos (by omega), show 8 - a.length - b.length = k from by omega]
    · rw [if_neg h8, if_neg (by simp), ih (k + 1) (by omega) (by omega)]
      by_cases h9 : a.length + k + b.length ≤ 8
      · rw [if_pos (by omega), if_pos h9]
      · rw [if_neg (by omega), if_neg h9]
theorem refTry_miss (pa pb : List (List UInt8)) (h : ∀ k, 1 ≤ k → (fullL (pa ++ zerosP k ++ pb)).2.2 = false) : ∀ (n k : Nat), 1 ≤ k → refTry pa pb n k = (0, 0, false) := by
  intro n
  induction n with
  | zero => intro k _; rfl
  | succ n ih => intro k hk; unfold refTry; rw [if_neg (by rw [h k hk]; simp), ih (k + 1) (by omega)]
theorem gap_eq (la lb : List UInt8) : (match (match fourL false la, fourL true lb with | some a, some b => if 8 ≤ a.length + b.length then none else some (a ++ List.replicate (8 - a.length - b.length) 0 ++ b) | _, _ => none) with | none => (0, 0, false) | some g => if g.length = 8 then (numL (g.take 4), numL (g.drop 4), true) else (0, 0, false)) = refTry (partsL la) (partsL lb) 8 1 := by
  rw [fourL_false, fourL_true]
  cases ha : fourP false (partsL la) [] with
  | none =>
    simp only
    rw [refTry_miss _ _ _ 8 1 (by omega)]
    · intro k hk
      by_cases hx : ∀ p ∈ partsL la, (hexParse p).2 = true
      · -- all hex, but more than eight
        unfold fullL
        cases hf : fullP (partsL la ++ zerosP k ++ partsL lb) [] with
        | none => rfl
        | some g =>
          simp only
          rw [if_neg]
          rintro ⟨h8, hl⟩
          have : fourP false (partsL la) [] = some ([] ++ (partsL la).map (fun p => (hexParse p).1.toNat)) := fourP_hex.2 ⟨hx, rfl, fun _ => by simp [zerosP] at hl ⊢; omega⟩
          rw [this] at ha; cases ha
      · unfold fullL
        rw [List.append_assoc, fullP_bad (by intro e; have := congrArg List.length e; simp [zerosP] at this; omega) hx]
  | some a =>
    cases hb : fourP true (partsL lb) [] with
    | none =>
      simp only
      rw [refTry_miss _ _ _ 8 1 (by omega)]
      · intro k hk
        obtain ⟨h1, h2, _⟩ := fourP_hex.1 ha
        unfold fullL
        rw [List.append_assoc, fullP_hex h1, fullP_hex (zerosP_hex k), fullP_app]
        cases hf : fullP (partsL lb) [] with
        | none => rfl
        | some g =>
          simp only [Option.map_some]
          rw [if_neg]
          rintro ⟨h8, _⟩
          rw [full_fourP hf (by simp at h8; omega)] at hb; cases hb
    | some b =>
      simp only
      rw [refTry_hit _ _ a b ha hb 8 1 (by omega) (by omega)]
      by_cases h8 : 8 ≤ a.length + b.length
      · rw [if_pos h8, if_neg (by omega)]
      · rw [if_neg h8, if_pos (by omega)]; simp only
        rw [if_pos (by simp; omega)]

/-! ### what is read is short -/
theorem joinL_le (c : UInt8) (L : List (List UInt8)) (h : ∀ p ∈ L, p.length ≤ 4) : (joinL c L).length ≤ 5 * L.length := by
  induction L with
  | nil => simp [joinL_nil]
  | cons x r ih =>
    have hx := h x (by simp)
    cases r with
    | nil => rw [joinL_one]; simp; omega
    | cons y r =>
      have := ih (fun p hp => h p (by simp [hp]))
      rw [joinL_cons]; simp at *; omega
theorem fullP_short {L : List (List UInt8)} {a g : List Nat} (h : fullP L a = some g) : (joinL 58 L).length ≤ 5 * L.length + 15 := by
  induction L generalizing a with
  | nil => simp [joinL_nil]
  | cons p r ih =>
    unfold fullP at h
    split at h
    · rename_i hx
      have h1 := ih h
      have h2 := hex_len hx
      cases r with
      | nil => rw [joinL_one]; simp; omega
      | cons y r => rw [joinL_cons]; simp at *; omega
    · split at h
      · rename_i h2
        have := v4_len h2.1
        rw [h2.2, joinL_one]; simp; omega
      · cases h
theorem parts_join (l : List UInt8) : joinL 58 (partsL l) = l := by
  unfold partsL; split
  · rename_i h; rw [h]; rfl
  · exact joinL_split 58 l
theorem spread_short {l : List UInt8} {g : List Nat} (h : spreadL l = some g) (h8 : g.length = 8) : l.length ≤ 60 := by
  unfold spreadL at h
  cases hg : gapO l with
  | none =>
    rw [hg] at h; simp only at h
    rw [fourL_true] at h
    have h1 := fullP_short (fourP_full h)
    have h2 := fullP_len (fourP_full h)
    rw [parts_join] at h1; omega
  | some i =>
    rw [hg] at h; simp only at h
    rw [fourL_false, fourL_true] at h
    cases ha : fourP false (partsL (l.take i)) [] with
    | none => rw [ha] at h; cases h
    | some a =>
      cases hb : fourP true (partsL (l.drop (i + 2))) [] with
      | none => rw [ha, hb] at h; cases h
      | some b =>
        rw [ha, hb] at h; simp only at h
        split at h
        · cases h
        · rename_i hlt
          have h1 := joinL_le 58 (partsL (l.take i)) (fun p hp => hex_len ((fourP_hex.1 ha).1 p hp))
          have h2 := fullP_len (fourP_full ha)
          have h3 := fullP_short (fourP_full hb)
          have h4 := fullP_len (fourP_full hb)
          rw [parts_join] at h1 h3
          simp at h1 h3; omega
theorem last_hex {L : List (List UInt8)} (h : ∀ p ∈ L, (hexParse p).2 = true) (hne : L ≠ []) : (hexParse (L.getLastD [])).2 = true := by
  rw [List.getLastD_eq_getLast?, List.getLast?_eq_some_getLast hne]
  exact h _ (List.getLast_mem hne)
theorem v6parse_eq (l : List UInt8) : v6parse l = refParse6 l := by
  unfold refParse6
  by_cases hl : 60 < l.length
  · rw [if_pos hl]
    unfold v6parse
    cases hs : spreadL l with
    | none => rfl
    | some g =>
      simp only
      rw [if_neg (fun h8 => by have := spread_short hs h8; omega)]
  · rw [if_neg hl]
    unfold v6parse spreadL
    cases hg : gapO l with
    | none => exact nogap_eq l
    | some i =>
      simp only
      have he := gap_eq (l.take i) (l.drop (i + 2))
      by_cases hc : partsL (l.take i) ≠ [] ∧ partsL (l.drop (i + 2)) = [] ∧ (hexParse ((partsL (l.take i)).getLastD [])).2 = false
      · rw [if_pos hc]
        rw [fourL_false]
        cases ha : fourP false (partsL (l.take i)) [] with
        | none => rfl
        | some a =>
          have := last_hex (fourP_hex.1 ha).1 hc.1
          rw [hc.2.2] at this; cases this
      · rw [if_neg hc]; exact he

/-! ### the groups of an address -/
def grps (hi lo : Nat) : List Nat := [hi / 281474976710656, hi / 4294967296 % 65536, hi / 65536 % 65536, hi % 65536, lo / 281474976710656, lo / 4294967296 % 65536, lo / 65536 % 65536, lo % 65536]
theorem grps_lt (hi lo : Nat) (h1 : hi < 18446744073709551616) (h2 : lo < 18446744073709551616) : ∀ g ∈ grps hi lo, g < 65536 := by
  intro g hg; simp only [grps, List.mem_cons, List.not_mem_nil, or_false] at hg
  rcases hg with h | h | h | h | h | h | h | h <;> omega
theorem numL_lt (L : List Nat) (h : ∀ g ∈ L, g < 65536) : numL L < 65536 ^ L.length := by
  have : ∀ (L : List Nat) (n k : Nat), n < 65536 ^ k → (∀ g ∈ L, g < 65536) → L.foldl (fun n g => n * 65536 + g) n < 65536 ^ (k + L.length) := by
    intro L
    induction L with
    | nil => intro n k h _; simpa using h
    | cons g r ih =>
      intro n k h hg
      rw [List.foldl_cons, List.length_cons, show k + (r.length + 1) = k + 1 + r.length from by omega]
      refine ih _ (k + 1) ?_ (fun x hx => hg x (by simp [hx]))
      have := hg g (by simp)
      rw [Nat.pow_succ]; omega
  have := this L 0 0 (by simp) h; simpa [numL] using this
/-- leading zeros -/
def zc : List Nat → Nat
  | [] => 0
  | x :: r => if x = 0 then zc r + 1 else 0
theorem zc_le (l : List Nat) : zc l ≤ l.length := by
  induction l with
  | nil => simp [zc]
  | cons x r ih => unfold zc; split <;> simp <;> omega
theorem zc_zero (l : List Nat) : ∀ j (h : j < zc l), l[j]? = some 0 := by
  induction l with
  | nil => intro j h; simp [zc] at h
  | cons x r ih =>
    intro j h
    unfold zc at h
    split at h
    · rename_i hx
      cases j with
      | zero => simp [hx]
      | succ j => simpa using ih j (by omega)
    · omega
def runStep (g : List Nat) (r : Nat × Nat) (i : Nat) : Nat × Nat := if r.2 - r.1 < zc (g.drop i) then (i, i + zc (g.drop i)) else r
def runL (g : List Nat) : Nat × Nat := (List.range 8).foldl (runStep g) (0, 0)
def runK (g : List Nat) (k : Nat) : Nat × Nat := (List.range k).foldl (runStep g) (0, 0)
theorem runK_succ (g : List Nat) (k : Nat) : runK g (k + 1) = runStep g (runK g k) k := by simp [runK, List.range_succ]
theorem runK_ok (g : List Nat) (k : Nat) : (runK g k).1 ≤ (runK g k).2 ∧ ((runK g k).1 = (runK g k).2 ∨ (runK g k).1 < k) ∧ (runK g k).2 = (runK g k).1 + (if (runK g k).1 = (runK g k).2 then 0 else zc (g.drop (runK g k).1)) := by
  induction k with
  | zero => simp [runK]
  | succ k ih =>
    rw [runK_succ]; unfold runStep
    obtain ⟨h1, h2, h3⟩ := ih
    split
    · rename_i h
      simp only
      refine ⟨by omega, Or.inr (by omega), ?_⟩
      rw [if_neg (by omega)]
    · exact ⟨h1, by omega, h3⟩
/-- as the reference finds the place of the gap -/
def atStep (g : List Nat) (a : Int) (i : Nat) : Int := if 1 < zc (g.drop i) ∧ (a < 0 ∨ zc (g.drop a.toNat) < zc (g.drop i)) then i else a
def atK (g : List Nat) (k : Nat) : Int := (List.range k).foldl (atStep g) (-1)
theorem atK_succ (g : List Nat) (k : Nat) : atK g (k + 1) = atStep g (atK g k) k := by simp [atK, List.range_succ]
theorem atK_run (g : List Nat) (k : Nat) : atK g k = if (runK g k).2 - (runK g k).1 < 2 then -1 else ((runK g k).1 : Int) := by
  induction k with
  | zero => simp [atK, runK]
  | succ k ih =>
    obtain ⟨h1, h2, h3⟩ := runK_ok g k
    rw [atK_succ, runK_succ, ih]
    unfold atStep runStep
    by_cases h : (runK g k).2 - (runK g k).1 < 2
    · rw [if_pos h]
      by_cases hz : 1 < zc (g.drop k)
      · rw [if_pos ⟨hz, Or.inl (by omega)⟩, if_pos (show (runK g k).2 - (runK g k).1 < zc (g.drop k) from by omega)]; simp only; rw [if_neg (by omega)]
      · rw [if_neg (fun h => hz h.1)]
        by_cases hc : (runK g k).2 - (runK g k).1 < zc (g.drop k)
        · rw [if_pos hc]; simp only; rw [if_pos (by omega)]
        · rw [if_neg hc, if_pos h]
    · rw [if_neg h]
      rw [if_neg (by omega)] at h3
      by_cases hz : (runK g k).2 - (runK g k).1 < zc (g.drop k)
      · rw [if_pos ⟨by omega, Or.inr (by rw [Int.toNat_natCast]; omega)⟩, if_pos hz]; simp only; rw [if_neg (by omega)]
      · rw [if_neg (by rw [Int.toNat_natCast]; omega), if_neg hz, if_neg h]
def hexJ (L : List Nat) : List UInt8 := joinL 58 (L.map hexs)
def textG (g : List Nat) (r : Nat × Nat) : List UInt8 := if r.2 - r.1 < 2 then hexJ g else hexJ (g.take r.1) ++ ([58, 58] ++ hexJ (g.drop r.2))
def v6text (hi lo : Nat) : List UInt8 := textG (grps hi lo) (runL (grps hi lo))

/-! ### a text is read as it was -/
theorem no_colon (n : Nat) : (58 : UInt8) ∉ hexs n := by
  have hd : ∀ n : Fin 16, hexDig n ≠ 58 := by decide +kernel
  induction n using Nat.strongRecOn with
  | _ n ih =>
    by_cases h : n < 16
    · rw [hexs_lo h]; intro hh; exact hd ⟨n, h⟩ (List.mem_singleton.1 hh).symm
    · rw [hexs_hi h]; intro hh
      rcases List.mem_append.1 hh with h1 | h1
      · exact ih (n / 16) (by omega) h1
      · exact hd ⟨n % 16, by omega⟩ (List.mem_singleton.1 h1).symm
/-- no two colons side by side, nor one at an end -/
theorem joinL_nogap (L : List (List UInt8)) (h : ∀ x ∈ L, x ≠ [] ∧ (58 : UInt8) ∉ x) : (∀ k : Nat, ¬ ((joinL 58 L)[k]? = some 58 ∧ (joinL 58 L)[k + 1]? = some 58)) ∧ (joinL 58 L)[0]? ≠ some 58 ∧ (joinL 58 L).getLast? ≠ some 58 := by
  induction L with
  | nil => simp [joinL_nil]
  | cons x r ih =>
    obtain ⟨hx1, hx2⟩ := h x (by simp)
    have hxp : 0 < x.length := List.length_pos_iff.2 hx1
    have hxe : ∀ k : Nat, x[k]? ≠ some 58 := fun k e => hx2 (List.mem_of_getElem? e)
    cases r with
    | nil =>
      rw [joinL_one]
      exact ⟨fun k hk => hxe k hk.1, hxe 0, by rw [List.getLast?_eq_getElem?]; exact hxe _⟩
    | cons y r =>
      obtain ⟨i1, i2, i3⟩ := ih (fun z hz => h z (by simp [hz]))
      rw [joinL_cons]
      generalize hJ : joinL 58 (y :: r) = J at *
      have hJne : J ≠ [] := by
        have := joinL_part 58 (y :: r) y (by simp)
        rw [hJ] at this
        have hy := List.length_pos_iff.2 (h y (by simp)).1
        intro e; rw [e, List.length_nil] at this; omega
      refine ⟨fun k ⟨h1, h2⟩ => ?_, ?_, ?_⟩
      · rcases Nat.lt_trichotomy k x.length with hk | hk | hk
        · rw [List.getElem?_append_left hk] at h1; exact hxe k h1
        · subst hk
          rw [List.getElem?_append_right (by omega), show x.length + 1 - x.length = 1 from by omega] at h2
          rw [List.getElem?_cons_succ] at h2
          exact i2 h2
        · rw [List.getElem?_append_right (by omega)] at h1 h2
          rw [show k - x.length = (k - x.length - 1) + 1 from by omega, List.getElem?_cons_succ] at h1
          rw [show k + 1 - x.length = (k - x.length - 1 + 1) + 1 from by omega, List.getElem?_cons_succ] at h2
          exact i1 _ ⟨h1, h2⟩
      · rw [List.getElem?_append_left hxp]; exact hxe 0
      · rw [List.getLast?_append, List.getLast?_cons]
        cases hl : J.getLast? with
        | none => exact absurd (List.getLast?_eq_none_iff.1 hl) hJne
        | some z => rw [hl] at i3; simpa using i3
theorem hexJ_ok (L : List Nat) : ∀ x ∈ L.map hexs, x ≠ [] ∧ (58 : UInt8) ∉ x := by
  intro x hx
  obtain ⟨n, _, rfl⟩ := List.mem_map.1 hx
  exact ⟨List.length_pos_iff.1 (hexs_ne n), no_colon n⟩
/-- the groups between two places are zero -/
theorem run_mid (g : List Nat) (h8 : g.length = 8) (hr : 2 ≤ (runL g).2 - (runL g).1) : (runL g).2 ≤ 8 ∧ g = g.take (runL g).1 ++ List.replicate ((runL g).2 - (runL g).1) 0 ++ g.drop (runL g).2 := by
  obtain ⟨h1, h2, h3⟩ := runK_ok g 8
  have e : runK g 8 = runL g := rfl
  rw [e] at h1 h2 h3
  rw [if_neg (by omega)] at h3
  have hz := zc_le (g.drop (runL g).1)
  have hzz := zc_zero (g.drop (runL g).1)
  generalize (runL g).1 = f at *
  generalize (runL g).2 = t at *
  simp at hz
  refine ⟨by omega, ?_⟩
  apply List.ext_getElem?
  intro j
  rcases Nat.lt_or_ge j f with hj | hj
  · rw [List.append_assoc, List.getElem?_append_left (by simp; omega), List.getElem?_take, if_pos hj]
  · rcases Nat.lt_or_ge j t with hjt | hjt
    · rw [List.append_assoc, List.getElem?_append_right (by simp; omega), List.getElem?_append_left (by simp; omega), List.getElem?_replicate, if_pos (by simp; omega)]
      have := hzz (j - f) (by omega)
      rw [List.getElem?_drop, show f + (j - f) = j from by omega] at this; exact this
    · rw [List.getElem?_append_right (by simp; omega), List.getElem?_drop]
      congr 1; simp; omega
/-! ### what is read is small -/
theorem fourP_lt {may : Bool} {L : List (List UInt8)} {a g : List Nat} (h : fourP may L a = some g) (ha : ∀ x ∈ a, x < 65536) : ∀ x ∈ g, x < 65536 := by
  induction L generalizing a with
  | nil => simp [fourP] at h; subst h; exact ha
  | cons p r ih =>
    unfold fourP at h
    split at h
    · rename_i h2
      simp at h; subst h
      have := (v4parse_true (l := p) (n := (v4parse p).1) (by rw [← h2.2.2])).1
      intro x hx
      rcases List.mem_append.1 hx with h | h
      · exact ha x h
      · simp at h; omega
    · split at h
      · cases h
      · refine ih h fun x hx => ?_
        have := hexParse_bd p
        rcases List.mem_append.1 hx with h | h
        · exact ha x h
        · simp at h; omega
theorem fourL_lt {may : Bool} {l : List UInt8} {g : List Nat} (h : fourL may l = some g) : ∀ x ∈ g, x < 65536 := by
  unfold fourL at h
  split at h
  · cases h; simp
  · exact fourP_lt h (by simp)
theorem spread_lt {l : List UInt8} {g : List Nat} (h : spreadL l = some g) : ∀ x ∈ g, x < 65536 := by
  unfold spreadL at h
  split at h
  · exact fourL_lt h
  · split at h
    · rename_i a b ha hb
      split at h
      · cases h
      · simp at h; subst h
        intro x hx
        rcases List.mem_append.1 hx with h | h
        · exact fourL_lt ha x h
        · rcases List.mem_append.1 h with h | h
          · rw [List.eq_of_mem_replicate h]; omega
          · exact fourL_lt hb x h
    · cases h
theorem v6parse_lt (l : List UInt8) : (v6parse l).1 < 18446744073709551616 ∧ (v6parse l).2.1 < 18446744073709551616 := by
  unfold v6parse
  split
  · simp
  · rename_i g hg
    split
    · rename_i h8
      have a := numL_lt (g.take 4) (fun x hx => spread_lt hg x (List.mem_of_mem_take hx))
      have b := numL_lt (g.drop 4) (fun x hx => spread_lt hg x (List.mem_of_mem_drop hx))
      rw [show (g.take 4).length = 4 from by simp; omega] at a
      rw [show (g.drop 4).length = 4 from by simp; omega] at b
      exact ⟨a, b⟩
    · simp
/-! ### the text of an address is no longer than that of its groups -/
theorem hexJ_app (a b : List Nat) (ha : a ≠ []) (hb : b ≠ []) : hexJ (a ++ b) = hexJ a ++ 58 :: hexJ b := by
  induction a with
  | nil => exact absurd rfl ha
  | cons x r ih =>
    cases r with
    | nil =>
      cases b with
      | nil => exact absurd rfl hb
      | cons y b => unfold hexJ; simp only [List.cons_append, List.nil_append, List.map_cons, List.map_nil]; rw [joinL_cons, joinL_one]
    | cons y r =>
      have := ih (by simp)
      unfold hexJ at *
      simp only [List.cons_append, List.map_cons] at *
      rw [joinL_cons, this, joinL_cons]; simp
theorem hexJ_pos (a : List Nat) (h : a ≠ []) : 0 < (hexJ a).length := by
  cases a with
  | nil => exact absurd rfl h
  | cons x r =>
    have := joinL_part 58 ((x :: r).map hexs) (hexs x) (by simp)
    have h2 := hexs_ne x
    unfold hexJ; omega
theorem hexJ_zeros (k : Nat) (hk : 0 < k) : (hexJ (List.replicate k 0)).length = 2 * k - 1 := by
  induction k with
  | zero => omega
  | succ k ih =>
    by_cases h : k = 0
    · subst h; decide +kernel
    · rw [List.replicate_succ, show (0 :: List.replicate k 0 : List Nat) = [0] ++ List.replicate k 0 from rfl, hexJ_app _ _ (by simp) (by simp; exact h)]
      have e : (hexJ [0]).length = 1 := by decide +kernel
      simp only [List.length_append, List.length_cons, ih (by omega), e]; omega
theorem v6text_short (hi lo : Nat) : (v6text hi lo).length ≤ (hexJ (grps hi lo)).length := by
  have h8 : (grps hi lo).length = 8 := rfl
  unfold v6text textG
  generalize grps hi lo = g at *
  split
  · exact Nat.le_refl _
  · rename_i hr
    obtain ⟨ht, hm⟩ := run_mid g h8 (by omega)
    generalize (runL g).1 = f at *
    generalize (runL g).2 = t at *
    have hz := hexJ_zeros (t - f) (by omega)
    conv => rhs; rw [hm]
    by_cases hA : g.take f = []
    · by_cases hB : g.drop t = []
      · rw [hA, hB]; have e : (hexJ []).length = 0 := rfl
        simp only [List.nil_append, List.append_nil, List.length_append, List.length_cons, List.length_nil, hz, e]
        have := congrArg List.length hm
        rw [hA, hB] at this; simp at this; omega
      · rw [hA, List.nil_append, hexJ_app _ _ (by simp; omega) hB]
        have e : (hexJ []).length = 0 := rfl
        simp only [List.length_append, List.length_cons, List.length_nil, hz, e]; omega
    · by_cases hB : g.drop t = []
      · rw [hB, List.append_nil, hexJ_app _ _ hA (by simp; omega)]
        have e : (hexJ []).length = 0 := rfl
        simp only [List.length_append, List.length_cons, List.length_nil, hz, e]; omega
      · rw [List.append_assoc, hexJ_app _ _ hA (by simp; omega), hexJ_app _ _ (by simp; omega) hB]
        simp only [List.length_append, List.length_cons, List.length_nil, hz]; omega
theorem hexs4 (n : Nat) (h : n < 65536) : (hexs n).length ≤ 4 := hexs_len 3 n (by omega)
theorem hexJ_len (L : List Nat) (h : ∀ g ∈ L, g < 65536) : (hexJ L).length ≤ 5 * L.length := by
  have := joinL_le 58 (L.map hexs) (fun p hp => by obtain ⟨g, hg, rfl⟩ := List.mem_map.1 hp; exact hexs4 g (h g hg))
  simpa [hexJ] using this
theorem v6text_len (hi lo : Nat) (h1 : hi < 18446744073709551616) (h2 : lo < 18446744073709551616) : (v6text hi lo).length ≤ 40 :=
  Nat.le_trans (v6text_short hi lo) (hexJ_len _ (grps_lt hi lo h1 h2))
end Go.Proofs.YtnohkfbapibmdaaGreat
namespace Go.Proofs.YtnohkfbapibmdaaGreat
open Go.RowKit

def adOf (hi lo : Nat) : Ad := if hi = 0 ∧ lo / 4294967296 = 65535 then ⟨false, 0, lo % 4294967296⟩ else ⟨true, hi, lo⟩
def ad4 (n : Nat) : Ad := ⟨false, 0, n⟩
def adRight (a : Ad) : Bool := if a.v6 = true then !decide (a.hi = 0 ∧ a.lo / 4294967296 = 65535) else decide (a.hi = 0 ∧ a.lo < 4294967296)
def adParse (l : List UInt8) : Ad × Bool := if (v4parse l).2 = true then (ad4 (v4parse l).1, true) else if (v6parse l).2.2 = true then (adOf (v6parse l).1 (v6parse l).2.1, true) else (⟨false, 0, 0⟩, false)
def adText (a : Ad) : List UInt8 := if adRight a = true then (if a.v6 = true then v6text a.hi a.lo else v4text a.lo) else []
def adBits (a : Ad) : Int := if a.v6 = true then 128 else 32
def adBit (a : Ad) (i : Int) : Nat := if i < 0 ∨ adBits a ≤ i then 0 else if a.v6 = true then (if i < 64 then a.hi / 2 ^ (63 - i.toNat) % 2 else a.lo / 2 ^ (127 - i.toNat) % 2) else a.lo / 2 ^ (31 - i.toNat) % 2
theorem right6 (a : Ad) (h : a.v6 = true) : decide (adOf a.hi a.lo = a) = adRight a := by
  unfold adRight adOf
  rw [if_pos h]
  by_cases hc : a.hi = 0 ∧ a.lo / 4294967296 = 65535
  · rw [if_pos hc, decide_eq_true hc]
    refine decide_eq_false fun e => ?_
    have := congrArg Ad.v6 e; rw [h] at this; cases this
  · rw [if_neg hc, decide_eq_false hc]
    exact decide_eq_true (Ad.ext' h.symm rfl rfl)
theorem right4 (a : Ad) (h : a.v6 = false) : decide (ad4 (a.lo % 4294967296) = a) = adRight a := by
  unfold adRight ad4
  rw [if_neg (by rw [h]; simp)]
  by_cases hc : a.hi = 0 ∧ a.lo < 4294967296
  · rw [decide_eq_true hc]
    exact decide_eq_true (Ad.ext' h.symm hc.1.symm (Nat.mod_eq_of_lt hc.2))
  · rw [decide_eq_false hc]
    refine decide_eq_false fun e => hc ⟨?_, ?_⟩
    · exact (congrArg Ad.hi e).symm
    · have := congrArg Ad.lo e; simp only at this; omega
theorem adOf_fits (hi lo : Nat) (h1 : hi < 18446744073709551616) (h2 : lo < 18446744073709551616) : (adOf hi lo).fits := by
  unfold adOf Ad.fits
  split
  · exact ⟨by simp, by simp only; omega⟩
  · exact ⟨h1, h2⟩
theorem adOf_right (hi lo : Nat) : adRight (adOf hi lo) = true := by
  unfold adOf
  split
  · unfold adRight; rw [if_neg (by simp)]; exact decide_eq_true ⟨rfl, by simp only; omega⟩
  · rename_i h; unfold adRight; rw [if_pos rfl]; simp only [decide_eq_false h]; rfl
theorem adParse_lt4 {l : List UInt8} (h : (v4parse l).2 = true) : (v4parse l).1 < 4294967296 := (v4parse_true (l := l) (n := (v4parse l).1) (by rw [← h])).1
theorem adParse_right (l : List UInt8) (h : (adParse l).2 = true) : adRight (adParse l).1 = true := by
  unfold adParse at *
  split
  · rename_i h4
    unfold adRight ad4; rw [if_neg (by simp)]; exact decide_eq_true ⟨rfl, adParse_lt4 h4⟩
  · rename_i h4
    rw [if_neg h4] at h
    split
    · exact adOf_right _ _
    · rename_i h6; rw [if_neg h6] at h; cases h
theorem adParse_bad (l : List UInt8) (h : (adParse l).2 = false) : (adParse l).1 = ⟨false, 0, 0⟩ := by
  unfold adParse at *
  split
  · rename_i h4; rw [if_pos h4] at h; cases h
  · rename_i h4
    rw [if_neg h4] at h
    split
    · rename_i h6; rw [if_pos h6] at h; cases h
    · rfl
theorem adParse_fits (l : List UInt8) : (adParse l).1.fits := by
  unfold adParse
  split
  · rename_i h4; have := adParse_lt4 h4; exact ⟨by simp [ad4], by simp only [ad4]; omega⟩
  · split
    · exact adOf_fits _ _ (v6parse_lt l).1 (v6parse_lt l).2
    · exact ⟨by simp, by simp⟩
end Go.Proofs.YtnohkfbapibmdaaGreat
namespace Go.Proofs.YtnohkfbapibmdaaGreat
open Go.RowKit

theorem digs_no58 (n : Nat) : (58 : UInt8) ∉ digs n := fun h => by have := digs_isDig n _ h; unfold isDig at this; simp at this
theorem v4text_no58 (n : Nat) : (58 : UInt8) ∉ v4text n := by
  unfold v4text v4parts
  rw [joinL_cons, joinL_cons, joinL_cons, joinL_one]
  simp [digs_no58]
theorem bits_eq (w n m : Nat) (hn : n < 2 ^ w) (hm : m < 2 ^ w) (h : ∀ k, k < w → n / 2 ^ k % 2 = m / 2 ^ k % 2) : n = m := by
  refine Nat.eq_of_testBit_eq fun i => ?_
  rw [Nat.testBit_eq_decide_div_mod_eq, Nat.testBit_eq_decide_div_mod_eq]
  by_cases hi : i < w
  · rw [h i hi]
  · have hp : 2 ^ w ≤ 2 ^ i := Nat.pow_le_pow_right (by omega) (by omega)
    rw [Nat.div_eq_of_lt (by omega), Nat.div_eq_of_lt (by omega)]
def sameK (a b : Ad) (k : Nat) : Bool := (List.range k).all fun j => decide (adBit a (j : Int) = adBit b (j : Int))
theorem sameK_iff (a b : Ad) (k : Nat) : sameK a b k = true ↔ ∀ j, j < k → adBit a (j : Int) = adBit b (j : Int) := by
  unfold sameK; simp
theorem adBit_hi (a : Ad) (h : a.v6 = true) (j : Nat) (hj : j < 64) : adBit a (j : Int) = a.hi / 2 ^ (63 - j) % 2 := by
  have c : ¬ ((j : Int) < 0 ∨ adBits a ≤ (j : Int)) := by unfold adBits; rw [if_pos h]; omega
  have d : (j : Int) < 64 := by omega
  unfold adBit; rw [if_neg c, if_pos h, if_pos d, Int.toNat_natCast]
theorem adBit_lo (a : Ad) (h : a.v6 = true) (j : Nat) (hj : 64 ≤ j) (hj2 : j < 128) : adBit a (j : Int) = a.lo / 2 ^ (127 - j) % 2 := by
  have c : ¬ ((j : Int) < 0 ∨ adBits a ≤ (j : Int)) := by unfold adBits; rw [if_pos h]; omega
  have d : ¬ (j : Int) < 64 := by omega
  unfold adBit; rw [if_neg c, if_pos h, if_neg d, Int.toNat_natCast]
theorem adBit_4 (a : Ad) (h : a.v6 = false) (j : Nat) (hj : j < 32) : adBit a (j : Int) = a.lo / 2 ^ (31 - j) % 2 := by
  have c : ¬ ((j : Int) < 0 ∨ adBits a ≤ (j : Int)) := by unfold adBits; rw [if_neg (by rw [h]; simp)]; omega
  unfold adBit; rw [if_neg c, if_neg (by rw [h]; simp), Int.toNat_natCast]
theorem same_end (a b : Ad) (fa : a.fits) (fb : b.fits) (ra : adRight a = true) (rb : adRight b = true) (hb : adBits a = adBits b) (k : Nat) (hk : (k : Int) = adBits a) : sameK a b k = decide (a = b) := by
  rw [Bool.eq_iff_iff, decide_eq_true_iff, sameK_iff]
  refine ⟨fun h => ?_, fun h j _ => by rw [h]⟩
  unfold adBits at hb hk
  have hv : a.v6 = b.v6 := by
    cases h1 : a.v6 <;> cases h2 : b.v6 <;> rw [h1, h2] at hb <;> simp at hb ⊢
  unfold adRight at ra rb
  cases h6 : a.v6 with
  | true =>
    have h6b : b.v6 = true := by rw [← hv, h6]
    rw [h6, if_pos rfl] at hk
    have e1 : a.hi = b.hi := bits_eq 64 _ _ fa.1 fb.1 fun j hj => by
      have := h (63 - j) (by omega)
      rw [adBit_hi a h6 _ (by omega), adBit_hi b h6b _ (by omega), show 63 - (63 - j) = j from by omega] at this; exact this
    have e2 : a.lo = b.lo := bits_eq 64 _ _ fa.2 fb.2 fun j hj => by
      have := h (127 - j) (by omega)
      rw [adBit_lo a h6 _ (by omega) (by omega), adBit_lo b h6b _ (by omega) (by omega), show 127 - (127 - j) = j from by omega] at this; exact this
    exact Ad.ext' hv e1 e2
  | false =>
    have h6b : b.v6 = false := by rw [← hv, h6]
    rw [h6, if_neg (by simp)] at hk ra
    rw [h6b, if_neg (by simp)] at rb
    have ra := of_decide_eq_true ra
    have rb := of_decide_eq_true rb
    have e2 : a.lo = b.lo := bits_eq 32 _ _ ra.2 rb.2 fun j hj => by
      have := h (31 - j) (by omega)
      rw [adBit_4 a h6 _ (by omega), adBit_4 b h6b _ (by omega), show 31 - (31 - j) = j from by omega] at this; exact this
    exact Ad.ext' hv (by rw [ra.1, rb.1]) e2
end Go.Proofs.YtnohkfbapibmdaaGreat
namespace Go.Proofs.YtnohkfbapibmdaaGreat
open Go.RowKit

structure Nt where
  ad : Ad
  bits : Int
theorem Nt.ext' {a b : Nt} (h1 : a.ad = b.ad) (h2 : a.bits = b.bits) : a = b := by cases a; cases b; simp_all
instance : DecidableEq Nt := fun a b => decidable_of_iff (a.ad = b.ad ∧ a.bits = b.bits) ⟨fun ⟨h1, h2⟩ => Nt.ext' h1 h2, fun h => by subst h; exact ⟨rfl, rfl⟩⟩
instance : Inhabited Nt := ⟨⟨default, 0⟩⟩

/-- the first n bits of w -/
def cutW (w x n : Nat) : Nat := x / 2 ^ (w - n) * 2 ^ (w - n)
/-- a number whose first n bits of 64 alone are 1 -/
def topN (n : Nat) : Nat := 2 ^ 64 - 2 ^ (64 - n)
theorem cutW_all (w x n : Nat) (h : w ≤ n) : cutW w x n = x := by
  unfold cutW; rw [show w - n = 0 from by omega]; simp
theorem cutW_none (w x : Nat) (h : x < 2 ^ w) : cutW w x 0 = 0 := by
  unfold cutW; rw [Nat.sub_zero, Nat.div_eq_of_lt h]; simp
theorem cutW_le (w x n : Nat) : cutW w x n ≤ x := Nat.div_mul_le_self _ _
theorem cutW_cut (w x n : Nat) : cutW w (cutW w x n) n = cutW w x n := by
  unfold cutW; rw [Nat.mul_div_cancel _ (Nat.two_pow_pos _)]
theorem pow_succ_of {a b : Nat} (h : a = b + 1) : 2 ^ a = 2 ^ b * 2 := by rw [h, Nat.pow_succ]
theorem cutW_succ (w x i : Nat) (h : i < w) : cutW w x (i + 1) = cutW w x i + x / 2 ^ (w - 1 - i) % 2 * 2 ^ (w - 1 - i) := by
  unfold cutW
  rw [show w - (i + 1) = w - 1 - i from by omega, pow_succ_of (show w - i = (w - 1 - i) + 1 from by omega), ← Nat.div_div_eq_div_mul]
  generalize 2 ^ (w - 1 - i) = p
  generalize x / p = y
  rw [Nat.mul_comm p 2, ← Nat.mul_assoc, ← Nat.add_mul]
  congr 1; omega
theorem cutW_bit (w x n j : Nat) (hj : j < w) : cutW w x n / 2 ^ (w - 1 - j) % 2 = if j < n then x / 2 ^ (w - 1 - j) % 2 else 0 := by
  unfold cutW
  by_cases h : j < n
  · rw [if_pos h]
    have e : 2 ^ (w - 1 - j) = 2 ^ (w - n) * 2 ^ (w - 1 - j - (w - n)) := by rw [← Nat.pow_add]; congr 1; omega
    rw [e, ← Nat.div_div_eq_div_mul, Nat.mul_div_cancel _ (Nat.two_pow_pos _), Nat.div_div_eq_div_mul]
  · rw [if_neg h]
    have e : 2 ^ (w - n) = 2 ^ (w - n - (w - 1 - j) - 1) * 2 * 2 ^ (w - 1 - j) := by rw [← Nat.pow_succ, ← Nat.pow_add]; congr 1; omega
    rw [e, ← Nat.mul_assoc, Nat.mul_div_cancel _ (Nat.two_pow_pos _), ← Nat.mul_assoc, Nat.mul_mod_left]
theorem topN_eq (n : Nat) (h : n ≤ 64) : topN n = (2 ^ n - 1) <<< (64 - n) := by
  unfold topN
  rw [Nat.shiftLeft_eq, Nat.sub_mul, ← Nat.pow_add, show n + (64 - n) = 64 from by omega, Nat.one_mul]
theorem and_top (x n : Nat) (hx : x < 2 ^ 64) (hn : n ≤ 64) : x &&& topN n = cutW 64 x n := by
  rw [topN_eq n hn]
  unfold cutW
  rw [← Nat.shiftLeft_eq, ← Nat.shiftRight_eq_div_pow]
  refine Nat.eq_of_testBit_eq fun i => ?_
  rw [Nat.testBit_and, Nat.testBit_shiftLeft, Nat.testBit_shiftLeft, Nat.testBit_shiftRight, Nat.testBit_two_pow_sub_one]
  by_cases h1 : 64 - n ≤ i
  · rw [decide_eq_true h1, Bool.true_and, Bool.true_and, show 64 - n + (i - (64 - n)) = i from by omega]
    by_cases h2 : i < 64
    · rw [decide_eq_true (show i - (64 - n) < n from by omega), Bool.and_true]
    · have : x.testBit i = false := Nat.testBit_lt_two_pow (Nat.lt_of_lt_of_le hx (Nat.pow_le_pow_right (by omega) (by omega)))
      rw [this, Bool.false_and]
  · rw [decide_eq_false h1]; simp
theorem topN_lt (n : Nat) : topN n < 18446744073709551616 := by
  unfold topN
  have := Nat.two_pow_pos (64 - n)
  show 18446744073709551616 - _ < _
  omega
/-- of an address of 32 bits -/
theorem top_high (n : Nat) (h : n ≤ 32) : topN n / 4294967296 = 2 ^ 32 - 2 ^ (32 - n) := by
  unfold topN
  have e : 2 ^ (64 - n) = 2 ^ (32 - n) * 4294967296 := by
    rw [show 64 - n = (32 - n) + 32 from by omega, Nat.pow_add]
  have hp : 2 ^ (32 - n) ≤ 2 ^ 32 := Nat.pow_le_pow_right (by omega) (by omega)
  rw [e]
  generalize 2 ^ (32 - n) = p at *
  omega
theorem and_high (x n : Nat) (hx : x < 4294967296) (hn : n ≤ 32) : x &&& (topN n / 4294967296) = cutW 32 x n := by
  have h := and_top x (32 + n) (by omega) (by omega)
  have e1 : cutW 64 x (32 + n) = cutW 32 x n := by unfold cutW; rw [show 64 - (32 + n) = 32 - n from by omega]
  rw [e1] at h
  rw [← h, top_high n hn]
  refine Nat.eq_of_testBit_eq fun i => ?_
  rw [Nat.testBit_and, Nat.testBit_and]
  by_cases h2 : i < 32
  · congr 1
    have e2 : 2 ^ 32 - 2 ^ (32 - n) = (2 ^ n - 1) <<< (32 - n) := by
      rw [Nat.shiftLeft_eq, Nat.sub_mul, ← Nat.pow_add, show n + (32 - n) = 32 from by omega, Nat.one_mul]
    rw [e2, topN_eq _ (by omega), show 64 - (32 + n) = 32 - n from by omega, Nat.testBit_shiftLeft, Nat.testBit_shiftLeft, Nat.testBit_two_pow_sub_one, Nat.testBit_two_pow_sub_one]
    by_cases h4 : 32 - n ≤ i
    · rw [decide_eq_true (show i - (32 - n) < n from by omega), decide_eq_true (show i - (32 - n) < 32 + n from by omega)]
    · rw [decide_eq_false (show ¬ i ≥ 32 - n from by omega), Bool.false_and, Bool.false_and]
  · have : x.testBit i = false := Nat.testBit_lt_two_pow (Nat.lt_of_lt_of_le hx (show 2 ^ 32 ≤ 2 ^ i from Nat.pow_le_pow_right (by omega) (by omega)))
    rw [this, Bool.false_and, Bool.false_and]

/-! ### masked -/
def clampB (a : Ad) (n : Int) : Nat := (min (max n 0) (adBits a)).toNat
def adMask (a : Ad) (n : Int) : Ad :=
  if adRight a = true then (if a.v6 = true then ⟨true, cutW 64 a.hi (clampB a n), cutW 64 a.lo (clampB a n - 64)⟩ else ⟨false, 0, cutW 32 a.lo (clampB a n)⟩) else ⟨false, 0, 0⟩
def adMake (a : Ad) (n : Int) : Nt × Bool := if adRight a = true ∧ 0 ≤ n ∧ n ≤ adBits a then (⟨adMask a n, n⟩, true) else (⟨⟨false, 0, 0⟩, 0⟩, false)
def ntFull (a : Ad) : Nt := (adMake a (adBits a)).1
def ntRight (n : Nt) : Bool := adRight n.ad && (decide (0 ≤ n.bits) && (decide (n.bits ≤ adBits n.ad) && decide (adMask n.ad n.bits = n.ad)))
def ntText (n : Nt) : List UInt8 := if ntRight n = true then adText n.ad ++ 47 :: decText n.bits else []

theorem clampB_in {a : Ad} {n : Int} (h0 : 0 ≤ n) (h1 : n ≤ adBits a) : clampB a n = n.toNat := by unfold clampB; omega
theorem adBits_of {a : Ad} (h : a.v6 = true) : adBits a = 128 := by unfold adBits; rw [if_pos h]
theorem adBits_of4 {a : Ad} (h : a.v6 = false) : adBits a = 32 := by unfold adBits; rw [if_neg (by rw [h]; simp)]
theorem adMask_v6 (a : Ad) (n : Int) (h : adRight a = true) : (adMask a n).v6 = a.v6 := by
  unfold adMask; rw [if_pos h]
  split
  · rename_i h6; rw [h6]
  · rename_i h6; simp at h6; rw [h6]
theorem adMask_bits (a : Ad) (n : Int) (h : adRight a = true) : adBits (adMask a n) = adBits a := by unfold adBits; rw [adMask_v6 a n h]
theorem adMask_fits (a : Ad) (n : Int) (hf : a.fits) : (adMask a n).fits := by
  have h1 := hf.1; have h2 := hf.2
  unfold adMask
  split
  · split
    · have := cutW_le 64 a.hi (clampB a n); have := cutW_le 64 a.lo (clampB a n - 64)
      exact ⟨by simp only; omega, by simp only; omega⟩
    · have := cutW_le 32 a.lo (clampB a n)
      exact ⟨by simp only; omega, by simp only; omega⟩
  · exact ⟨by simp, by simp⟩
theorem adMask_right (a : Ad) (n : Int) (hf : a.fits) (h : adRight a = true) : adRight (adMask a n) = true := by
  have hr := h
  unfold adMask; rw [if_pos h]
  unfold adRight at hr
  cases h6 : a.v6 with
  | true =>
    rw [h6, if_pos rfl] at hr
    rw [if_pos rfl]
    unfold adRight; rw [if_pos rfl]
    simp only [Bool.not_eq_true', decide_eq_false_iff_not] at hr ⊢
    intro ⟨c1, c2⟩
    apply hr
    generalize clampB a n = m at *
    by_cases hm : 96 ≤ m
    · rw [cutW_all 64 a.hi m (by omega)] at c1
      refine ⟨c1, ?_⟩
      unfold cutW at c2
      have e : 4294967296 = 2 ^ (64 - (m - 64)) * 2 ^ (32 - (64 - (m - 64))) := by rw [← Nat.pow_add]; show 2 ^ 32 = _; congr 1; omega
      rw [e, ← Nat.div_div_eq_div_mul, Nat.mul_div_cancel _ (Nat.two_pow_pos _), Nat.div_div_eq_div_mul, ← e] at c2
      exact c2
    · exfalso
      have hb := cutW_bit 64 a.lo (m - 64) 31 (by omega)
      rw [if_neg (by omega)] at hb
      change _ / 4294967296 % 2 = 0 at hb
      omega
  | false =>
    rw [h6, if_neg (by simp)] at hr
    rw [if_neg (by simp)]
    have hr := of_decide_eq_true hr
    unfold adRight; rw [if_neg (by simp)]
    have := cutW_le 32 a.lo (clampB a n)
    exact decide_eq_true ⟨rfl, by simp only; omega⟩
theorem adBit_mask (a : Ad) (n : Int) (hf : a.fits) (h : adRight a = true) (h0 : 0 ≤ n) (hn : n ≤ adBits a) (j : Nat) (hj : (j : Int) < adBits a) : adBit (adMask a n) j = if (j : Int) < n then adBit a j else 0 := by
  have h6' := adMask_v6 a n h
  have hm : adMask a n = if a.v6 = true then ⟨true, cutW 64 a.hi n.toNat, cutW 64 a.lo (n.toNat - 64)⟩ else ⟨false, 0, cutW 32 a.lo n.toNat⟩ := by
    unfold adMask; rw [if_pos h, clampB_in h0 hn]
  obtain ⟨m, rfl⟩ : ∃ m : Nat, n = m := ⟨n.toNat, by omega⟩
  simp only [Int.toNat_natCast] at hm
  cases h6 : a.v6 with
  | true =>
    rw [h6] at h6'
    rw [h6, if_pos rfl] at hm
    rw [adBits_of h6] at hn hj
    by_cases hj6 : j < 64
    · rw [adBit_hi a h6 j hj6, adBit_hi _ h6' j hj6, hm]
      have := cutW_bit 64 a.hi m j hj6
      simp only [Int.ofNat_lt]
      exact this
    · rw [adBit_lo a h6 j (by omega) (by omega), adBit_lo _ h6' j (by omega) (by omega), hm]
      have := cutW_bit 64 a.lo (m - 64) (j - 64) (by omega)
      rw [show 64 - 1 - (j - 64) = 127 - j from by omega] at this
      simp only [Int.ofNat_lt]
      rw [this]
      by_cases hc : j < m
      · rw [if_pos hc, if_pos (by omega)]
      · rw [if_neg hc, if_neg (by omega)]
  | false =>
    rw [h6] at h6'
    rw [h6, if_neg (by simp)] at hm
    rw [adBits_of4 h6] at hn hj
    rw [adBit_4 a h6 j (by omega), adBit_4 _ h6' j (by omega), hm]
    have := cutW_bit 32 a.lo m j (by omega)
    simp only [Int.ofNat_lt]
    exact this
theorem adBit_2 (a : Ad) (j : Int) : adBit a j = 0 ∨ adBit a j = 1 := by
  unfold adBit
  split
  · exact Or.inl rfl
  · split
    · split <;> omega
    · omega
/-- the bits behind the first n are 0 -/
def noBits (a : Ad) (n : Int) (k : Nat) : Bool := (List.range k).all fun j => decide ((j : Int) < n ∨ adBit a j ≠ 1)
theorem noBits_iff (a : Ad) (n : Int) (k : Nat) : noBits a n k = true ↔ ∀ j, j < k → (j : Int) < n ∨ adBit a j ≠ 1 := by unfold noBits; simp
theorem mask_same (a b : Ad) (fa : a.fits) (fb : b.fits) (ra : adRight a = true) (rb : adRight b = true) (hv : a.v6 = b.v6) : a = b ↔ ∀ j : Nat, (j : Int) < adBits a → adBit a j = adBit b j := by
  have hb : adBits a = adBits b := by unfold adBits; rw [hv]
  have hk : ((adBits a).toNat : Int) = adBits a := by unfold adBits; split <;> rfl
  have := same_end a b fa fb ra rb hb (adBits a).toNat hk
  rw [Bool.eq_iff_iff, decide_eq_true_iff, sameK_iff] at this
  rw [← this]
  exact ⟨fun h j hj => h j (by omega), fun h j hj => h j (by omega)⟩
theorem noBits_mask (a : Ad) (n : Int) (hf : a.fits) (h : adRight a = true) (h0 : 0 ≤ n) (hn : n ≤ adBits a) : noBits a n (adBits a).toNat = decide (adMask a n = a) := by
  rw [Bool.eq_iff_iff, decide_eq_true_iff, noBits_iff, mask_same _ _ (adMask_fits a n hf) hf (adMask_right a n hf h) h (adMask_v6 a n h), adMask_bits a n h]
  constructor
  · intro hh j hj
    rw [adBit_mask a n hf h h0 hn j hj]
    split
    · rfl
    · rename_i hc
      have := (hh j (by omega)).resolve_left hc
      have := adBit_2 a j
      omega
  · intro hh j hj
    have := hh j (by omega)
    rw [adBit_mask a n hf h h0 hn j (by omega)] at this
    by_cases hc : (j : Int) < n
    · exact Or.inl hc
    · rw [if_neg hc] at this; right; omega
theorem adMask_mask (a : Ad) (n : Int) (hf : a.fits) (h : adRight a = true) : adMask (adMask a n) n = adMask a n := by
  have h1 := adMask_right a n hf h
  have h6 := adMask_v6 a n h
  have hc : clampB (adMask a n) n = clampB a n := by unfold clampB; rw [adMask_bits a n h]
  have e : adMask (adMask a n) n = if a.v6 = true then ⟨true, cutW 64 (adMask a n).hi (clampB a n), cutW 64 (adMask a n).lo (clampB a n - 64)⟩ else ⟨false, 0, cutW 32 (adMask a n).lo (clampB a n)⟩ := by
    rw [adMask, if_pos h1, h6, hc]
  rw [e]
  unfold adMask; rw [if_pos h]
  split
  · simp only [cutW_cut]
  · simp only [cutW_cut]
theorem adMake_right (a : Ad) (n : Int) (hf : a.fits) (h : (adMake a n).2 = true) : ntRight (adMake a n).1 = true := by
  unfold adMake at *
  split
  · rename_i hc
    obtain ⟨h1, h2, h3⟩ := hc
    unfold ntRight
    simp only [adMask_right a n hf h1, adMask_bits a n h1, adMask_mask a n hf h1, decide_eq_true h2, decide_eq_true h3, decide_true, Bool.and_self]
  · rename_i hc; rw [if_neg hc] at h; cases h
theorem ntRight_iff (n : Nt) : ntRight n = true ↔ adRight n.ad = true ∧ 0 ≤ n.bits ∧ n.bits ≤ adBits n.ad ∧ adMask n.ad n.bits = n.ad := by unfold ntRight; simp
theorem ntRight_make (n : Nt) : ntRight n = ((adMake n.ad n.bits).2 && decide ((adMake n.ad n.bits).1 = n)) := by
  rw [Bool.eq_iff_iff, ntRight_iff, Bool.and_eq_true, decide_eq_true_iff]
  unfold adMake
  split
  · rename_i hc
    obtain ⟨h1, h2, h3⟩ := hc
    exact ⟨fun h => ⟨rfl, Nt.ext' h.2.2.2 rfl⟩, fun h => ⟨h1, h2, h3, congrArg Nt.ad h.2⟩⟩
  · rename_i hc
    exact ⟨fun h => absurd ⟨h.1, h.2.1, h.2.2.1⟩ hc, fun h => by cases h.1⟩
theorem noBits_succ (a : Ad) (n : Int) (k : Nat) : noBits a n (k + 1) = (noBits a n k && decide ((k : Int) < n ∨ adBit a k ≠ 1)) := by
  unfold noBits; rw [List.range_succ]; simp
theorem ntRight_bits (n : Nt) (hf : n.ad.fits) (h : adRight n.ad = true) (h0 : 0 ≤ n.bits) (h1 : n.bits ≤ adBits n.ad) : ntRight n = noBits n.ad n.bits (adBits n.ad).toNat := by
  rw [noBits_mask n.ad n.bits hf h h0 h1]
  unfold ntRight
  rw [h, decide_eq_true h0, decide_eq_true h1]; rfl
theorem noBits_start (a : Ad) (n : Int) (k : Nat) (h : (k : Int) ≤ n) : noBits a n k = true := by
  rw [noBits_iff]; intro j hj; exact Or.inl (by omega)
theorem noBits_bad (a : Ad) (n : Int) (k m : Nat) (h : n ≤ k) (hk : k < m) (hb : adBit a k = 1) : noBits a n m = false := by
  cases hc : noBits a n m with
  | false => rfl
  | true =>
    have := (noBits_iff a n m).1 hc k hk
    omega
theorem noBits_good (a : Ad) (n : Int) (k : Nat) (h : noBits a n k = true) (hb : adBit a k ≠ 1) : noBits a n (k + 1) = true := by
  rw [noBits_succ, h, decide_eq_true (Or.inr hb)]; rfl
theorem adBits_nn (a : Ad) : 0 ≤ adBits a ∧ adBits a ≤ 128 := by unfold adBits; split <;> omega
theorem adText_len (a : Ad) (hf : a.fits) : (adText a).length ≤ 1000 := by
  unfold adText
  split
  · split
    · have := v6text_len a.hi a.lo hf.1 hf.2; omega
    · rename_i hr hv
      unfold adRight at hr; rw [if_neg hv] at hr
      have := v4text_len a.lo (of_decide_eq_true hr).2; omega
  · simp
end Go.Proofs.YtnohkfbapibmdaaGreat
