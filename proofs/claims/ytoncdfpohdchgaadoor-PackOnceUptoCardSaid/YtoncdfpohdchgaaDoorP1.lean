/- Several texts as one: Pd, Ma, Mb, Mc. -/
import Derived.Test.YtoncdfpohdchgaaDoorPq
import Derived.Test.YtoncdfpohdchgaaDoorIa
import Derived.Test.YtoncdfpohdchgaaDoorKn
import Derived.Test.YtoncdfpohdchgaaDoorEn
import Derived.Test.YtoncdfpohdchgaaDoorGn
import Derived.Test.YtoncdfpohdchgaaDoorM1
set_option linter.unusedSimpArgs false
set_option linter.unusedVariables false
/- The plain law of a delta: what Make makes, what Apply reads, and that it leads back. No condition; no program. -/
namespace Go.Pl
open Go.Fw
/-- How many bytes are the same from place k of the base on, where the target's byte is t and those behind it are told by 'next'. -/
def rowAt (base : List UInt8) (t : UInt8) (next : List Nat) (k : Nat) : Nat := if base[k]? = some t then next.getD (k + 1) 0 + 1 else 0
def rowOf (base : List UInt8) (t : UInt8) (next : List Nat) : List Nat := (List.range (base.length + 1)).map (rowAt base t next)
/-- The row of the place that has m bytes of the target from it on. -/
def rowsD (base target : List UInt8) : Nat → List Nat
  | 0 => List.replicate (base.length + 1) 0
  | m + 1 => rowOf base (target.getD (target.length - (m + 1)) 0) (rowsD base target m)
/-- The best of the last m places of the base. -/
def bestD (base : List UInt8) (t : UInt8) (next : List Nat) : Nat → Nat × Nat
  | 0 => (0, 0)
  | m + 1 => if base[base.length - (m + 1)]? = some t ∧ (bestD base t next m).2 ≤ rowAt base t next (base.length - (m + 1)) then (base.length - (m + 1), rowAt base t next (base.length - (m + 1))) else bestD base t next m
def bestOf (base target : List UInt8) (i : Nat) : Nat × Nat := bestD base (target.getD i 0) (rowsD base target (target.length - 1 - i)) base.length
theorem rowOf_length (base : List UInt8) (t : UInt8) (next : List Nat) : (rowOf base t next).length = base.length + 1 := by simp [rowOf]
theorem rowsD_length (base target : List UInt8) : ∀ m, (rowsD base target m).length = base.length + 1
  | 0 => by simp [rowsD]
  | m + 1 => by rw [rowsD, rowOf_length]
theorem rowOf_at {base : List UInt8} {t : UInt8} {next : List Nat} {k : Nat} (h : k ≤ base.length) : (rowOf base t next).getD k 0 = rowAt base t next k := by
  rw [rowOf, List.getD_eq_getElem?_getD, List.getElem?_map, List.getElem?_range (by omega)]; rfl
theorem rowsD_same (base target : List UInt8) : ∀ m, m ≤ target.length → ∀ k, k ≤ base.length → k + (rowsD base target m).getD k 0 ≤ base.length ∧ (rowsD base target m).getD k 0 ≤ m ∧
    (base.drop k).take ((rowsD base target m).getD k 0) = (target.drop (target.length - m)).take ((rowsD base target m).getD k 0)
  | 0, _, k, hk => by
    have h0 : (rowsD base target 0).getD k 0 = 0 := by rw [rowsD, List.getD_eq_getElem?_getD, List.getElem?_replicate]; split <;> rfl
    rw [h0]; exact ⟨by omega, Nat.le_refl _, by simp⟩
  | m + 1, hm, k, hk => by
    rw [rowsD, rowOf_at hk, rowAt]
    have hlt : target.length - (m + 1) < target.length := by omega
    have ht : target.getD (target.length - (m + 1)) 0 = target[target.length - (m + 1)] := by rw [List.getD_eq_getElem?_getD, List.getElem?_eq_getElem hlt]; rfl
    split
    · rename_i hb
      obtain ⟨hkl, hbe⟩ := List.getElem?_eq_some_iff.1 hb
      obtain ⟨h1, h2, h3⟩ := rowsD_same base target m (by omega) (k + 1) (by omega)
      refine ⟨by omega, by omega, ?_⟩
      rw [List.drop_eq_getElem_cons hkl, List.drop_eq_getElem_cons hlt, List.take_succ_cons, List.take_succ_cons, hbe, ht, show target.length - (m + 1) + 1 = target.length - m by omega, h3]
    · exact ⟨by omega, by omega, by simp⟩
theorem bestD_same {base : List UInt8} {t : UInt8} {next : List Nat} (P : Nat → Nat → Prop) (h0 : P 0 0) (h : ∀ k, k < base.length → P k (rowAt base t next k)) : ∀ m, m ≤ base.length → P (bestD base t next m).1 (bestD base t next m).2
  | 0, _ => h0
  | m + 1, hm => by
    rw [bestD]
    split
    · exact h _ (by omega)
    · exact bestD_same P h0 h m (by omega)
theorem bestOf_same {base target : List UInt8} {i : Nat} (hi : i < target.length) : (bestOf base target i).1 + (bestOf base target i).2 ≤ base.length ∧ i + (bestOf base target i).2 ≤ target.length ∧
    (base.drop (bestOf base target i).1).take (bestOf base target i).2 = (target.drop i).take (bestOf base target i).2 := by
  have key : ∀ k, k < base.length → k + rowAt base (target.getD i 0) (rowsD base target (target.length - 1 - i)) k ≤ base.length ∧ i + rowAt base (target.getD i 0) (rowsD base target (target.length - 1 - i)) k ≤ target.length ∧
      (base.drop k).take (rowAt base (target.getD i 0) (rowsD base target (target.length - 1 - i)) k) = (target.drop i).take (rowAt base (target.getD i 0) (rowsD base target (target.length - 1 - i)) k) := by
    intro k hk
    have h := rowsD_same base target (target.length - 1 - i + 1) (by omega) k (by omega)
    rw [rowsD, rowOf_at (by omega), show target.length - (target.length - 1 - i + 1) = i by omega] at h
    exact ⟨h.1, by omega, h.2.2⟩
  exact bestD_same (P := fun a r => a + r ≤ base.length ∧ i + r ≤ target.length ∧ (base.drop a).take r = (target.drop i).take r) ⟨by omega, by omega, by simp⟩ key base.length (Nat.le_refl _)
/-- A row of which the places from q on are told. -/
def rowPart (base : List UInt8) (t : UInt8) (next : List Nat) (q : Nat) : List Nat := (List.range (base.length + 1)).map fun j => if j < q then 0 else rowAt base t next j
theorem rowPart_length (base : List UInt8) (t : UInt8) (next : List Nat) (q : Nat) : (rowPart base t next q).length = base.length + 1 := by simp [rowPart]
theorem rowPart_at {base : List UInt8} {t : UInt8} {next : List Nat} {q j : Nat} (h : j ≤ base.length) : (rowPart base t next q)[j]? = some (if j < q then 0 else rowAt base t next j) := by
  rw [rowPart, List.getElem?_map, List.getElem?_range (by omega)]; rfl
theorem rowPart_top (base : List UInt8) (t : UInt8) (next : List Nat) : rowPart base t next base.length = List.replicate (base.length + 1) 0 := by
  apply List.ext_getElem?
  intro j
  by_cases hj : j ≤ base.length
  · have e : (if j < base.length then 0 else rowAt base t next j) = 0 := by
      split
      · rfl
      · have hn : base[j]? = none := List.getElem?_eq_none (by omega)
        rw [rowAt, if_neg (by rw [hn]; simp)]
    rw [rowPart_at hj, e, List.getElem?_replicate, if_pos (by omega)]
  · rw [List.getElem?_eq_none (by rw [rowPart_length]; omega), List.getElem?_eq_none (by rw [List.length_replicate]; omega)]
theorem rowPart_zero (base : List UInt8) (t : UInt8) (next : List Nat) : rowPart base t next 0 = rowOf base t next := by
  unfold rowPart rowOf
  congr 1
theorem rowPart_same {base : List UInt8} {t : UInt8} {next : List Nat} {k : Nat} (h : rowAt base t next k = 0) : rowPart base t next k = rowPart base t next (k + 1) := by
  unfold rowPart
  congr 1
  funext j
  by_cases h1 : j < k
  · rw [if_pos h1, if_pos (by omega)]
  · rw [if_neg h1]
    by_cases h2 : j = k
    · subst h2; rw [if_pos (by omega), h]
    · rw [if_neg (by omega)]
theorem rowPart_set {base : List UInt8} {t : UInt8} {next : List Nat} {k : Nat} (hk : k ≤ base.length) : (rowPart base t next (k + 1)).set k (rowAt base t next k) = rowPart base t next k := by
  apply List.ext_getElem?
  intro j
  by_cases hj : j ≤ base.length
  · rw [List.getElem?_set, rowPart_at hj, rowPart_at hj, rowPart_length]
    by_cases h2 : k = j
    · subst h2; rw [if_pos rfl, if_pos (by omega), if_neg (by omega)]
    · rw [if_neg h2]
      by_cases h1 : j < k
      · rw [if_pos (by omega), if_pos h1]
      · rw [if_neg (by omega), if_neg h1]
  · rw [List.getElem?_eq_none (by rw [List.length_set, rowPart_length]; omega), List.getElem?_eq_none (by rw [rowPart_length]; omega)]
theorem bestD_yes {base : List UInt8} {t : UInt8} {next : List Nat} {k : Nat} (hk : k < base.length) (h : base[k]? = some t) (h2 : (bestD base t next (base.length - (k + 1))).2 ≤ rowAt base t next k) : bestD base t next (base.length - k) = (k, rowAt base t next k) := by
  obtain ⟨m, hm⟩ : ∃ m, base.length - k = m + 1 := ⟨base.length - k - 1, by omega⟩
  have e1 : base.length - (k + 1) = m := by omega
  have e2 : base.length - (m + 1) = k := by omega
  rw [e1] at h2
  rw [hm, bestD, e2, if_pos ⟨h, h2⟩]
theorem bestD_no {base : List UInt8} {t : UInt8} {next : List Nat} {k : Nat} (hk : k < base.length) (h : ¬ (base[k]? = some t ∧ (bestD base t next (base.length - (k + 1))).2 ≤ rowAt base t next k)) : bestD base t next (base.length - k) = bestD base t next (base.length - (k + 1)) := by
  obtain ⟨m, hm⟩ : ∃ m, base.length - k = m + 1 := ⟨base.length - k - 1, by omega⟩
  have e1 : base.length - (k + 1) = m := by omega
  have e2 : base.length - (m + 1) = k := by omega
  rw [e1] at h ⊢
  rw [hm, bestD, e2, if_neg h]
theorem rowAt_yes {base : List UInt8} {t : UInt8} {next : List Nat} {k m : Nat} (h : base[k]? = some t) (hn : next[k + 1]? = some m) : rowAt base t next k = m + 1 := by
  rw [rowAt, if_pos h, List.getD_eq_getElem?_getD, hn]; rfl
theorem rowAt_no {base : List UInt8} {t : UInt8} {next : List Nat} {k : Nat} (h : base[k]? ≠ some t) : rowAt base t next k = 0 := by rw [rowAt, if_neg h]
theorem rowsD_le (base target : List UInt8) {m k v : Nat} (hm : m ≤ target.length) (h : (rowsD base target m)[k]? = some v) : v ≤ base.length := by
  have hk := (List.getElem?_eq_some_iff.1 h).1
  rw [rowsD_length] at hk
  have := (rowsD_same base target m hm k (by omega)).1
  rw [List.getD_eq_getElem?_getD, h] at this
  simp at this
  omega
/-! ## Make -/
/-- A piece of own bytes. -/
def ownB (rest : List UInt8) : List UInt8 := if rest = [] then [] else vi (2 * rest.length) ++ rest
/-- What is written from place i on, where 'rest' is not written yet. -/
def mkS (base target : List UInt8) : Nat → Nat → List UInt8 → List UInt8
  | 0, _, rest => ownB rest
  | f + 1, i, rest => if target.length ≤ i then ownB rest else if (bestOf base target i).2 < 8 then mkS base target f (i + 1) (rest ++ [target.getD i 0])
    else ownB rest ++ vi (2 * (bestOf base target i).2 + 1) ++ vi (bestOf base target i).1 ++ mkS base target f (i + (bestOf base target i).2) []
theorem mkS_end {base target : List UInt8} {f i : Nat} {rest : List UInt8} (h : target.length ≤ i) : mkS base target f i rest = ownB rest := by
  cases f with
  | zero => rfl
  | succ f => rw [mkS, if_pos h]
def mkB (base target : List UInt8) : List UInt8 := vi base.length ++ vi target.length ++ mkS base target target.length 0 []
theorem ownB_len (rest : List UInt8) (h : rest.length ≤ 4096) : (ownB rest).length ≤ rest.length + 9 := by
  unfold ownB
  split
  · simp
  · have := vi_len9 (n := 2 * rest.length) (by omega)
    rw [List.length_append]; omega
theorem mkS_len {base target : List UInt8} (hb : base.length ≤ 4096) (ht : target.length ≤ 4096) : ∀ f i rest, rest.length + f ≤ 4096 → i ≤ target.length → (mkS base target f i rest).length ≤ rest.length + 9 + f * 28
  | 0, i, rest, h, _ => by have := ownB_len rest (by omega); rw [mkS]; omega
  | f + 1, i, rest, h, hi => by
    have h0 := ownB_len rest (by omega)
    rw [mkS]
    split
    · omega
    split
    · have := mkS_len hb ht f (i + 1) (rest ++ [target.getD i 0]) (by simp; omega) (by omega)
      rw [List.length_append, List.length_singleton] at this
      omega
    · rename_i hlt _
      obtain ⟨h1, h2, _⟩ := bestOf_same (base := base) (target := target) (i := i) (by omega)
      have h3 := vi_len9 (n := 2 * (bestOf base target i).2 + 1) (by omega)
      have h4 := vi_len9 (n := (bestOf base target i).1) (by omega)
      have := mkS_len hb ht f (i + (bestOf base target i).2) [] (by simp; omega) h2
      rw [List.length_nil] at this
      simp only [List.length_append]
      omega
theorem mkB_len {base target : List UInt8} (hb : base.length ≤ 4096) (ht : target.length ≤ 4096) : (mkB base target).length ≤ 120000 := by
  have h1 := vi_len9 (n := base.length) (by omega)
  have h2 := vi_len9 (n := target.length) (by omega)
  have h3 := mkS_len hb ht target.length 0 [] (by simp; omega) (by omega)
  simp only [List.length_nil] at h3
  simp only [mkB, List.length_append]
  omega
/-! ## Apply -/
/-- The pieces: where the reading is, what is wrong, what came out. -/
def apL (base d : List UInt8) (size : Nat) : Nat → Nat → List UInt8 → Nat × Int × List UInt8
  | 0, at_, out => (at_, 0, out)
  | f + 1, at_, out => if size ≤ out.length then (at_, 0, out) else match gnum d at_ with
    | .error e => (0, e, out)
    | .ok (m, a) => if m / 2 = 0 ∨ size - out.length < m / 2 then (a, 7, out) else
      if m % 2 = 0 then (if d.length - a < m / 2 then (a, 8, out) else apL base d size f (a + m / 2) (out ++ (d.drop a).take (m / 2))) else
      match gnum d a with
      | .error e => (0, e, out)
      | .ok (k, a2) => if base.length < k ∨ base.length - k < m / 2 then (a2, 9, out) else apL base d size f a2 (out ++ (base.drop k).take (m / 2))
/-- What stands at the end. -/
def apEnd (d : List UInt8) (p : Nat × Int × List UInt8) : List UInt8 × Int := if p.2.1 ≠ 0 then ([], p.2.1) else if p.1 ≠ d.length then ([], 7) else (p.2.2, 0)
def apB (base d : List UInt8) : List UInt8 × Int := if 4096 < base.length then ([], 3) else match gnum d 0 with
  | .error e => ([], e)
  | .ok (n, a) => if n ≠ base.length then ([], 1) else match gnum d a with
    | .error e => ([], e)
    | .ok (size, a2) => if 4096 < size then ([], 3) else apEnd d (apL base d size (size + 1) a2 [])
theorem apL_done {base d out : List UInt8} {size f at_ : Nat} (h : size ≤ out.length) : apL base d size f at_ out = (at_, 0, out) := by
  cases f with
  | zero => rfl
  | succ f => rw [apL, if_pos h]
/-- A piece of own bytes is read. -/
theorem apL_own {base pre rest post out : List UInt8} {size f : Nat} (h0 : rest ≠ []) (hl : out.length + rest.length ≤ size) (hs : rest.length ≤ 4096) :
    apL base (pre ++ (ownB rest ++ post)) size (f + 1) pre.length out = apL base (pre ++ (ownB rest ++ post)) size f (pre ++ ownB rest).length (out ++ rest) := by
  have hp : 0 < rest.length := List.length_pos_iff.2 h0
  have e : ownB rest = vi (2 * rest.length) ++ rest := if_neg h0
  have hg := (rds_num (n := 2 * rest.length) (by omega)).1 pre (rest ++ post)
  rw [e, List.append_assoc, apL, if_neg (by omega), hg]
  simp only []
  rw [show 2 * rest.length / 2 = rest.length by omega, if_neg (by omega), if_pos (by omega), if_neg (by simp only [List.length_append]; omega)]
  congr 1
  · simp only [List.length_append]; omega
  · congr 1
    rw [← List.append_assoc, List.drop_left' (by simp), List.take_append_of_le_length (Nat.le_refl _), List.take_of_length_le (Nat.le_refl _)]
/-- A piece of the base is read. -/
theorem apL_copy {base pre post out : List UInt8} {size f a r : Nat} (h0 : 0 < r) (hl : out.length + r ≤ size) (ha : a + r ≤ base.length) (hs : base.length ≤ 4096) :
    apL base (pre ++ (vi (2 * r + 1) ++ (vi a ++ post))) size (f + 1) pre.length out = apL base (pre ++ (vi (2 * r + 1) ++ (vi a ++ post))) size f (pre ++ (vi (2 * r + 1) ++ vi a)).length (out ++ (base.drop a).take r) := by
  have hg := (rds_num (n := 2 * r + 1) (by omega)).1 pre (vi a ++ post)
  have hg2 := (rds_num (n := a) (by omega)).1 (pre ++ vi (2 * r + 1)) post
  rw [apL, if_neg (by omega), hg]
  simp only []
  rw [show (2 * r + 1) / 2 = r by omega, if_neg (by omega), if_neg (by omega)]
  rw [List.append_assoc, List.length_append] at hg2
  rw [hg2]
  simp only []
  rw [if_neg (by omega)]
  congr 1
  simp only [List.length_append]; omega
theorem apL_mk {base target : List UInt8} (hb : base.length ≤ 4096) (ht : target.length ≤ 4096) : ∀ (f i : Nat) (rest pre out : List UInt8) (g : Nat), target.length ≤ i + f → i ≤ target.length → out ++ rest = target.take i → target.length < out.length + g →
    apL base (pre ++ mkS base target f i rest) target.length g pre.length out = ((pre ++ mkS base target f i rest).length, 0, target) := by
  have last : ∀ (rest pre out : List UInt8) (g : Nat), out ++ rest = target → target.length < out.length + g → apL base (pre ++ ownB rest) target.length g pre.length out = ((pre ++ ownB rest).length, 0, target) := by
    intro rest pre out g he hg
    have hlen : out.length + rest.length = target.length := by rw [← he, List.length_append]
    by_cases hr : rest = []
    · subst hr
      rw [List.append_nil] at he
      subst he
      rw [show ownB [] = [] from rfl, List.append_nil, apL_done (Nat.le_refl _)]
    · obtain ⟨g, rfl⟩ : ∃ g', g = g' + 1 := ⟨g - 1, by have := List.length_pos_iff.2 hr; omega⟩
      have := apL_own (base := base) (pre := pre) (post := []) (out := out) (size := target.length) (f := g) hr (by omega) (by omega)
      rw [List.append_nil] at this
      rw [this, apL_done (by rw [he]; exact Nat.le_refl _), he]
  intro f
  induction f with
  | zero =>
    intro i rest pre out g hf hi he hg
    have : i = target.length := by omega
    subst this
    rw [List.take_of_length_le (Nat.le_refl _)] at he
    exact last rest pre out g he hg
  | succ f ih =>
    intro i rest pre out g hf hi he hg
    by_cases hT : target.length ≤ i
    · have : i = target.length := by omega
      subst this
      rw [List.take_of_length_le (Nat.le_refl _)] at he
      rw [mkS, if_pos hT]
      exact last rest pre out g he hg
    · have hlt : i < target.length := by omega
      have hgd : target.getD i 0 = target[i] := by rw [List.getD_eq_getElem?_getD, List.getElem?_eq_getElem hlt]; rfl
      rw [mkS, if_neg hT]
      by_cases h8 : (bestOf base target i).2 < 8
      · rw [if_pos h8]
        refine ih (i + 1) (rest ++ [target.getD i 0]) pre out g (by omega) (by omega) ?_ hg
        rw [← List.append_assoc, he, hgd, take_succ (List.getElem?_eq_getElem hlt)]
      · rw [if_neg h8]
        obtain ⟨h1, h2, h3⟩ := bestOf_same (base := base) hlt
        generalize (bestOf base target i).1 = a at *
        generalize (bestOf base target i).2 = r at *
        have hlen : out.length + rest.length = i := by rw [← List.length_append, he, List.length_take]; omega
        have hnext : out ++ rest ++ (base.drop a).take r = target.take (i + r) := by rw [he, h3, ← List.take_add]
        -- the own bytes ahead of it
        have hown : ∃ g', target.length < (out ++ rest).length + (g' + 1) ∧ apL base (pre ++ (ownB rest ++ (vi (2 * r + 1) ++ (vi a ++ mkS base target f (i + r) [])))) target.length g pre.length out
            = apL base (pre ++ (ownB rest ++ (vi (2 * r + 1) ++ (vi a ++ mkS base target f (i + r) [])))) target.length (g' + 1) (pre ++ ownB rest).length (out ++ rest) := by
          by_cases hr : rest = []
          · subst hr
            refine ⟨g - 1, by simp only [List.append_nil]; omega, ?_⟩
            rw [show ownB [] = [] from rfl, List.append_nil, List.append_nil, show g - 1 + 1 = g by omega]
          · have hrl := List.length_pos_iff.2 hr
            refine ⟨g - 2, by rw [List.length_append]; omega, ?_⟩
            have := apL_own (base := base) (pre := pre) (rest := rest) (post := vi (2 * r + 1) ++ (vi a ++ mkS base target f (i + r) [])) (out := out) (size := target.length) (f := g - 1) hr (by omega) (by omega)
            rw [show g - 1 + 1 = g by omega] at this
            rw [this, show g - 2 + 1 = g - 1 by omega]
        obtain ⟨g', hg', hown⟩ := hown
        simp only [List.append_assoc] at hown ⊢
        rw [hown]
        have hc := apL_copy (base := base) (pre := pre ++ ownB rest) (post := mkS base target f (i + r) []) (out := out ++ rest) (size := target.length) (f := g') (a := a) (r := r) (by omega) (by rw [List.length_append]; omega) h1 hb
        simp only [List.append_assoc] at hc
        rw [hc]
        have := ih (i + r) [] (pre ++ (ownB rest ++ (vi (2 * r + 1) ++ vi a))) (out ++ (rest ++ (base.drop a).take r)) g' (by omega) h2 (by rw [List.append_nil, ← List.append_assoc]; exact hnext) (by rw [← List.append_assoc, hnext, List.length_take]; rw [List.length_append] at hg'; omega)
        simp only [List.append_assoc] at this
        exact this
/-- Apply of Make is the target. -/
theorem apB_mk {base target : List UInt8} (hb : base.length ≤ 4096) (ht : target.length ≤ 4096) : apB base (mkB base target) = (target, 0) := by
  have hg := (rds_num (n := base.length) (by omega)).1 [] (vi target.length ++ mkS base target target.length 0 [])
  have hg2 := (rds_num (n := target.length) (by omega)).1 (vi base.length) (mkS base target target.length 0 [])
  have h3 := apL_mk hb ht target.length 0 [] (vi base.length ++ vi target.length) [] (target.length + 1) (by omega) (by omega) (by simp) (by simp)
  simp only [List.nil_append, List.length_nil, Nat.zero_add, List.append_assoc] at hg hg2 h3
  unfold apB mkB
  simp only [List.append_assoc]
  rw [if_neg (by omega), hg]
  simp only []
  rw [if_neg (by simp), hg2]
  simp only []
  rw [if_neg (by omega)]
  rw [List.length_append] at h3
  rw [h3]
  unfold apEnd
  simp
end Go.Pl
namespace Go.Pl
open Go.Fw
/-! ## Apply, step by step -/
def refE (e : Int) (b : Bool) (x : Int) : Int := if e = 0 ∧ b = true then x else e
theorem refE_ne {e x : Int} {b : Bool} (h : e ≠ 0) : refE e b x = e := if_neg fun y => h y.1
theorem refE_yes {x : Int} : refE 0 true x = x := if_pos ⟨rfl, rfl⟩
theorem refE_no {e x : Int} : refE e false x = e := if_neg fun y => by cases y.2
/-- A number is read, if nothing was wrong. -/
def NumR (d : List UInt8) (at_ : Nat) (e : Int) (n a : Nat) (e1 : Int) : Prop := (e = 0 ∧ e1 = 0 ∧ gnum d at_ = .ok (n, a)) ∨ (e = 0 ∧ e1 ≠ 0 ∧ gnum d at_ = .error e1 ∧ n = 0 ∧ a = 0) ∨ (e ≠ 0 ∧ e1 = e ∧ n = 0 ∧ a = at_)
theorem NumR.le {d : List UInt8} {at_ n a : Nat} {e e1 : Int} (h : NumR d at_ e n a e1) (ha : at_ ≤ d.length) : a ≤ d.length ∧ n < 9223372036854775808 := by
  rcases h with ⟨_, _, h⟩ | ⟨_, _, _, h1, h2⟩ | ⟨_, _, h1, h2⟩
  · exact ⟨(gnum_len h ha).2, (snd_num _ _ _ _ ha h).2.2.2⟩
  · omega
  · omega
section
variable {base d out : List UInt8} {size f at_ m a k a2 : Nat} {e : Int}
theorem apEnd_err {n : Nat} {o : List UInt8} (h : e ≠ 0) : apEnd d (n, e, o) = ([], e) := by unfold apEnd; rw [if_pos h]
theorem apE_num (hl : out.length < size) (h : gnum d at_ = .error e) : apEnd d (apL base d size (f + 1) at_ out) = ([], e) := by
  rw [apL, if_neg (by omega), h]; exact apEnd_err (gnum_err h)
theorem apE_bad (hl : out.length < size) (h : gnum d at_ = .ok (m, a)) (hb : m / 2 = 0 ∨ size - out.length < m / 2) : apEnd d (apL base d size (f + 1) at_ out) = ([], 7) := by
  rw [apL, if_neg (by omega), h]; simp only []; rw [if_pos hb]; exact apEnd_err (by decide)
theorem apE_end (hl : out.length < size) (h : gnum d at_ = .ok (m, a)) (hb : ¬ (m / 2 = 0 ∨ size - out.length < m / 2)) (h2 : m % 2 = 0) (h3 : d.length - a < m / 2) : apEnd d (apL base d size (f + 1) at_ out) = ([], 8) := by
  rw [apL, if_neg (by omega), h]; simp only []; rw [if_neg hb, if_pos h2, if_pos h3]; exact apEnd_err (by decide)
theorem ap_own (hl : out.length < size) (h : gnum d at_ = .ok (m, a)) (hb : ¬ (m / 2 = 0 ∨ size - out.length < m / 2)) (h2 : m % 2 = 0) (h3 : ¬ d.length - a < m / 2) : apL base d size (f + 1) at_ out = apL base d size f (a + m / 2) (out ++ (d.drop a).take (m / 2)) := by
  rw [apL, if_neg (by omega), h]; simp only []; rw [if_neg hb, if_pos h2, if_neg h3]
theorem apE_num2 (hl : out.length < size) (h : gnum d at_ = .ok (m, a)) (hb : ¬ (m / 2 = 0 ∨ size - out.length < m / 2)) (h2 : ¬ m % 2 = 0) (h3 : gnum d a = .error e) : apEnd d (apL base d size (f + 1) at_ out) = ([], e) := by
  rw [apL, if_neg (by omega), h]; simp only []; rw [if_neg hb, if_neg h2, h3]; exact apEnd_err (gnum_err h3)
theorem apE_rng (hl : out.length < size) (h : gnum d at_ = .ok (m, a)) (hb : ¬ (m / 2 = 0 ∨ size - out.length < m / 2)) (h2 : ¬ m % 2 = 0) (h3 : gnum d a = .ok (k, a2)) (h4 : base.length < k ∨ base.length - k < m / 2) : apEnd d (apL base d size (f + 1) at_ out) = ([], 9) := by
  rw [apL, if_neg (by omega), h]; simp only []; rw [if_neg hb, if_neg h2, h3]; simp only []; rw [if_pos h4]; exact apEnd_err (by decide)
theorem ap_copy (hl : out.length < size) (h : gnum d at_ = .ok (m, a)) (hb : ¬ (m / 2 = 0 ∨ size - out.length < m / 2)) (h2 : ¬ m % 2 = 0) (h3 : gnum d a = .ok (k, a2)) (h4 : ¬ (base.length < k ∨ base.length - k < m / 2)) : apL base d size (f + 1) at_ out = apL base d size f a2 (out ++ (base.drop k).take (m / 2)) := by
  rw [apL, if_neg (by omega), h]; simp only []; rw [if_neg hb, if_neg h2, h3]; simp only []; rw [if_neg h4]
end
theorem apL_len {base d : List UInt8} {size : Nat} : ∀ (f at_ : Nat) (out : List UInt8), out.length ≤ size → (apL base d size f at_ out).2.2.length ≤ size
  | 0, at_, out, h => h
  | f + 1, at_, out, h => by
    rw [apL]
    split
    · exact h
    rename_i hlt
    split
    · exact h
    split
    · exact h
    rename_i hb
    have hb2 := not_or.1 hb
    split
    · split
      · exact h
      · exact apL_len f _ _ (by rw [List.length_append, List.length_take]; omega)
    · split
      · exact h
      split
      · exact h
      · exact apL_len f _ _ (by rw [List.length_append, List.length_take]; omega)
theorem apB_len (base d : List UInt8) : (apB base d).1.length ≤ 4096 := by
  unfold apB
  split
  · simp
  split
  · simp
  split
  · simp
  split
  · simp
  split
  · simp
  · rename_i size a2 _ hs
    have := apL_len (base := base) (d := d) (size := size) (size + 1) a2 [] (Nat.zero_le _)
    unfold apEnd
    split
    · simp
    split
    · simp
    · show (apL base d size (size + 1) a2 []).2.2.length ≤ 4096
      omega
/-- How it stands ahead of the first piece. -/
theorem ap_head {base d : List UInt8} {n1 a1 size a2 : Nat} {e1 e3 : Int} (hb : base.length ≤ 4096) (h1 : NumR d 0 0 n1 a1 e1) (h2 : NumR d a1 (refE e1 (decide (n1 ≠ base.length)) 1) size a2 e3) :
    apB base d = if refE e3 (decide (4096 < size)) 3 ≠ 0 then ([], refE e3 (decide (4096 < size)) 3) else apEnd d (apL base d size (size + 1) a2 []) := by
  unfold apB
  rw [if_neg (by omega)]
  rcases h1 with ⟨_, he, hg⟩ | ⟨_, he, hg, hn, ha⟩ | ⟨h, _⟩
  · rw [hg]; simp only []
    subst he
    by_cases hn : n1 = base.length
    · rw [if_neg (by omega)]
      have hr : refE 0 (decide (n1 ≠ base.length)) 1 = 0 := by rw [refE, if_neg (by simp [hn])]
      rw [hr] at h2
      rcases h2 with ⟨_, he, hg⟩ | ⟨_, he, hg, hs, ha⟩ | ⟨h, _⟩
      · rw [hg]; simp only []
        subst he
        by_cases hs : 4096 < size
        · rw [if_pos hs, decide_eq_true hs, refE_yes, if_pos (by decide)]
        · rw [if_neg hs, decide_eq_false hs, refE_no, if_neg (by simp)]
      · rw [hg]; simp only []
        rw [refE_ne he, if_pos he]
      · exact absurd rfl h
    · rw [if_pos hn]
      have hr : refE 0 (decide (n1 ≠ base.length)) 1 = 1 := by rw [refE, if_pos ⟨rfl, by simp [hn]⟩]
      rw [hr] at h2
      rcases h2 with ⟨h, _⟩ | ⟨h, _⟩ | ⟨_, he, _, _⟩
      · cases h
      · cases h
      · subst he
        rw [refE_ne (by decide), if_pos (by decide)]
  · rw [hg]; simp only []
    have hr : refE e1 (decide (n1 ≠ base.length)) 1 = e1 := by rw [refE, if_neg (fun x => he x.1)]
    rw [hr] at h2
    rcases h2 with ⟨h, _⟩ | ⟨h, _⟩ | ⟨_, he2, _, _⟩
    · exact absurd h he
    · exact absurd h he
    · subst he2
      rw [refE_ne he, if_pos he]
  · exact absurd rfl h
end Go.Pl

/- delta.matches, walked: what it finds are the best places (Pd). No condition. -/
namespace Go.Proofs.YtoncdfpohdchgaaDoor
open Go.RowKit Go.Fw Go.Pl
abbrev TMt : TypeId := 121
abbrev encM (p : Nat × Nat) : List Value := [.int .i64 (p.1 : Int), .int .i64 (p.2 : Int)]
abbrev matC (l : List (Nat × Nat)) : List Value := (l.map encM).flatten
theorem encM_length (p : Nat × Nat) : (encM p).length = 2 := rfl
theorem one_encM (p : Nat × Nat) : ∀ u ∈ encM p, u.oneCell' = true := by
  intro u hu
  simp at hu
  rcases hu with rfl | rfl <;> rfl
theorem sz0_deltamatch : (Tryd.prog.info? 121).map (·.size) = some 2 := by kernel_rfl
theorem fo_deltamatch0 : FieldOff Tryd.prog TMt 0 0 := ⟨_, _, 1, Tryd.underlying121, rfl, sz_int, by decide, rfl⟩
theorem fo_deltamatch1 : FieldOff Tryd.prog TMt 1 1 := ⟨_, _, 1, Tryd.underlying121, rfl, sz_int, by decide, rfl⟩
theorem mi_match : MakeInfo Tryd.prog TMt [.int .i64 0, .int .i64 0] 16 := by
  have h : (Tryd.prog.info? TMt).map (fun i => (i.zero, i.size, i.bytes)) = some (some (.agg #[.int .i64 0, .int .i64 0]), 2, 16) := by kernel_rfl
  obtain ⟨i, hi, h⟩ := Option.map_eq_some_iff.1 h
  obtain ⟨h1, h2⟩ := Prod.mk.inj h
  obtain ⟨h2, h3⟩ := Prod.mk.inj h2
  exact ⟨i, _, hi, h1, rfl, h2, h3⟩
theorem mi_int : MakeInfo Tryd.prog 3 [.int .i64 0] 8 := by
  have h : (Tryd.prog.info? 3).map (fun i => (i.zero, i.size, i.bytes)) = some (some (.int .i64 0), 1, 8) := by kernel_rfl
  obtain ⟨i, hi, h⟩ := Option.map_eq_some_iff.1 h
  obtain ⟨h1, h2⟩ := Prod.mk.inj h
  obtain ⟨h2, h3⟩ := Prod.mk.inj h2
  exact ⟨i, _, hi, h1, rfl, h2, h3⟩
theorem zero_int (w : World) : (zeroValue 3).run Tryd.prog w = .ok (.int .i64 0) w := by
  obtain ⟨i, z, hi, hz, hzc, _⟩ := mi_int
  have h : (Tryd.prog.info? 3).map (fun i => i.zero) = some (some (.int .i64 0)) := by kernel_rfl
  rw [hi] at h
  simp at h
  simp [zeroValue, typeInfo, hi, h]
theorem mat_zeros (m : Nat) : (List.replicate m [Value.int .i64 0, .int .i64 0]).flatten = matC (List.replicate m (0, 0)) := by
  rw [matC, List.map_replicate]; rfl
theorem build_match (a b : Int) (w : World) : (Instr.build TMt [(0, Value.int .i64 a), (1, Value.int .i64 b)].toArray).run Tryd.prog w = .ok (.agg [Value.int .i64 a, Value.int .i64 b].toArray) w := run_build w _ _ _ (by kernel_rfl)
theorem set_self {α : Type} {l : List α} {i : Nat} {x : α} (h : l[i]? = some x) : l.set i x = l := by
  obtain ⟨hlt, rfl⟩ := List.getElem?_eq_some_iff.1 h
  exact List.set_getElem_self hlt
theorem toNat_ne {a b : UInt8} : ((a.toNat : Int) ≠ (b.toNat : Int)) ↔ a ≠ b := by
  constructor
  · rintro h rfl; exact h rfl
  · intro h e; exact h (UInt8.toNat_inj.1 (by omega))

set_option maxRecDepth 100000 in
set_option maxHeartbeats 2000000 in
theorem matches_any (u v : Value) (base target : List UInt8) (w : World) (hu : By w u base) (hv : By w v target) (hbm : base.length ≤ 4096) (htm : target.length ≤ 4096) : Calls Tryd.prog 60 #[u, v] w (Ret fun r w' => ∃ g, r = .slice (some ⟨g, 0, none⟩) target.length target.length ∧ w.heap.size ≤ g ∧ Blk w' g TMt (matC ((List.range target.length).map (bestOf base target))) ∧ Ext w w') := by
  have hul := hu.ltB
  have hvl := hv.ltB
  have hu0 := hu
  have hv0 := hv
  obtain ⟨A, m, c, rfl⟩ := hu.lens
  obtain ⟨B, n, cb, rfl⟩ := hv.lens
  have hm := hu.len.1
  have hn := hv.len.1
  refine calls_of_CW 76 [4] [(0, .slice A m c), (1, .slice B n cb)] Tryd.func60 rfl rfl rfl (by simp) args2 ?_
  have hE : Ext w w := Chg.refl
  refine CW.seq fun K1 hK1 => ?_
  refine CW.region ?_   -- region 0
  refine WL.val (Y.assign rfl) (by decide) ?_   -- t4 := assign c(nilslice)
  refine WL.nil ?_
  refine hK1 _ _ ?_; try clear hK1 K1
  refine CW.seq fun K2 hK2 => ?_
  refine CW.region ?_   -- region 1
  refine WL.val (Y.move rfl) (by decide) ?_   -- t10 := move t1
  refine WL.val (Y.len_slice Tryd.underlying33 rfl) (by decide) ?_   -- t11 := call len(t10) : 33
  refine WL.st (St.makeK (m := n) Tryd.underlying118 mi_match rfl rfl (by omega) (by omega)) (by decide) fun v12 w1 hR1 => ?_   -- t12 := makeSlice 118 t11 t11
  obtain ⟨gb, rfl, hgb, hBb, hx1⟩ := hR1
  have hz1 := hx1.size
  have hE := hE.thenExt hx1
  have hu := hu.ext hx1
  have hv := hv.ext hx1
  rw [mat_zeros] at hBb
  have hgbl := hBb.lt
  refine WL.val (Y.assign rfl) (by decide) ?_   -- t5 := assign t12
  refine WL.nil ?_
  refine hK2 _ _ ?_; try clear hK2 K2
  refine CW.seq_to (X := Nat × Nat) (fun y => [(0, .slice A m c), (1, .slice B n cb), (5, .slice (some ⟨gb, 0, none⟩) n n), (6, .slice (some ⟨y.1, 0, none⟩) (m + 1) (m + 1)), (7, .slice (some ⟨y.2, 0, none⟩) (m + 1) (m + 1))]) (fun y w0 => Blk w0 y.1 3 (intC (List.replicate (m + 1) 0)) ∧ Blk w0 y.2 3 (intC (List.replicate (m + 1) 0)) ∧ y.1 ≠ y.2 ∧ w1.heap.size ≤ y.1 ∧ w1.heap.size ≤ y.2 ∧ Ext w1 w0) ?_ ?_
  · skip
    refine CW.held (fun wq => Ext w1 wq) (by kernel_rfl) 10 rfl fun w2 hS => ?_
    refine RH.take 0 (fun _ _ _ _ h => h) (by kernel_rfl) hS rfl (by kernel_rfl) (by kernel_rfl) (fun wq hq => Y.move rfl) (by decide) ?_   -- t13 := move t0
    refine RH.take 1 (fun _ _ _ _ h => h) (by kernel_rfl) hS rfl (by kernel_rfl) (by kernel_rfl) (fun wq hq => Y.len_slice Tryd.underlying33 rfl) (by decide) ?_   -- t14 := call len(t13) : 33
    refine RH.take 2 (fun _ _ _ _ h => h) (by kernel_rfl) hS rfl (by kernel_rfl) (by kernel_rfl) (fun wq hq => Y.add rfl rfl ⟨by omega, by omega⟩) (by decide) ?_   -- t15 := binOp add 3 t14 c(1:i64) 3
    refine RH.take 4 (fun _ _ _ _ h => h) (by kernel_rfl) hS rfl (by kernel_rfl) (by kernel_rfl) (fun wq hq => Y.move rfl) (by decide) ?_   -- t17 := move t0
    refine RH.take 5 (fun _ _ _ _ h => h) (by kernel_rfl) hS rfl (by kernel_rfl) (by kernel_rfl) (fun wq hq => Y.len_slice Tryd.underlying33 rfl) (by decide) ?_   -- t18 := call len(t17) : 33
    refine RH.take 6 (fun _ _ _ _ h => h) (by kernel_rfl) hS rfl (by kernel_rfl) (by kernel_rfl) (fun wq hq => Y.add rfl rfl ⟨by omega, by omega⟩) (by decide) ?_   -- t19 := binOp add 3 t18 c(1:i64) 3
    refine RH.two 3 7 (by kernel_rfl) ?_ ?_
    · skip
      refine RS.st rfl (St.makeK (m := m + 1) Tryd.underlying138 mi_int rfl rfl (by omega) (by omega)) (by decide) fun v16 w3 hR3 => ?_   -- makeSlice 138 t15 t15
      obtain ⟨gn, rfl, hgn, hBn, hx3⟩ := hR3
      have hzS0 := hS.size
      have hS := hS.thenExt hx3
      have hgnl := hBn.lt
      rw [intC_zeros] at hBn
      refine ⟨hS, ?_⟩
      refine RH.take 8 (fun _ _ _ _ h => h) (by kernel_rfl) hS rfl (by kernel_rfl) (by kernel_rfl) (fun wq hq => Y.assign rfl) (by decide) ?_   -- t6 := assign t16
      refine RH.one 7 (by kernel_rfl) ?_
      refine RS.st rfl (St.makeK (m := m + 1) Tryd.underlying138 mi_int rfl rfl (by omega) (by omega)) (by decide) fun v20 w4 hR4 => ?_   -- makeSlice 138 t19 t19
      obtain ⟨gr, rfl, hgr, hBr, hx4⟩ := hR4
      rw [intC_zeros] at hBr
      have hzS := hS.size
      have hS := hS.thenExt hx4
      have hBn := hBn.ext hx4
      refine ⟨hS, ?_⟩
      refine RH.take 9 (fun _ _ _ _ h => h) (by kernel_rfl) hS rfl (by kernel_rfl) (by kernel_rfl) (fun wq hq => Y.assign rfl) (by decide) ?_   -- t7 := assign t20
      refine RH.done (by kernel_rfl) ?_
      have hx5 := hS; have hz5 := hx5.size; have hE := hE.thenExt hx5; have hu := hu.ext hx5; have hv := hv.ext hx5
      exact ⟨(gn, gr), (by repeat (first | exact Fr.le.nil | refine Fr.le.cons rfl ?_)), hBn, hBr, by show gn ≠ gr; omega, by show w1.heap.size ≤ gn; have := hx3.size; omega, by show w1.heap.size ≤ gr; omega, hS⟩
    · skip
      refine RS.st rfl (St.makeK (m := m + 1) Tryd.underlying138 mi_int rfl rfl (by omega) (by omega)) (by decide) fun v20 w6 hR6 => ?_   -- makeSlice 138 t19 t19
      obtain ⟨gr, rfl, hgr, hBr, hx6⟩ := hR6
      have hzS0 := hS.size
      have hS := hS.thenExt hx6
      have hgrl := hBr.lt
      rw [intC_zeros] at hBr
      refine ⟨hS, ?_⟩
      refine RH.one 3 (by kernel_rfl) ?_
      refine RS.st rfl (St.makeK (m := m + 1) Tryd.underlying138 mi_int rfl rfl (by omega) (by omega)) (by decide) fun v16 w7 hR7 => ?_   -- makeSlice 138 t15 t15
      obtain ⟨gn, rfl, hgn, hBn, hx7⟩ := hR7
      rw [intC_zeros] at hBn
      have hzS := hS.size
      have hS := hS.thenExt hx7
      have hBr := hBr.ext hx7
      refine ⟨hS, ?_⟩
      refine RH.take 8 (fun _ _ _ _ h => h) (by kernel_rfl) hS rfl (by kernel_rfl) (by kernel_rfl) (fun wq hq => Y.assign rfl) (by decide) ?_   -- t6 := assign t16
      refine RH.take 9 (fun _ _ _ _ h => h) (by kernel_rfl) hS rfl (by kernel_rfl) (by kernel_rfl) (fun wq hq => Y.assign rfl) (by decide) ?_   -- t7 := assign t20
      refine RH.done (by kernel_rfl) ?_
      have hx8 := hS; have hz8 := hx8.size; have hE := hE.thenExt hx8; have hu := hu.ext hx8; have hv := hv.ext hx8
      exact ⟨(gn, gr), (by repeat (first | exact Fr.le.nil | refine Fr.le.cons rfl ?_)), hBn, hBr, by show gn ≠ gr; omega, by show w1.heap.size ≤ gn; omega, by show w1.heap.size ≤ gr; have := hx6.size; omega, hS⟩
  rintro u w9 hj9
  obtain ⟨gn, gr⟩ := u
  dsimp only at hj9 ⊢
  obtain ⟨hBn, hBr, hngr, hgn, hgr, hx⟩ := hj9
  have hzx := hx.size
  have hE := hE.thenExt hx
  have hu := hu.ext hx
  have hv := hv.ext hx
  have hBb := hBb.ext hx
  refine CW.seq fun K3 hK3 => ?_
  refine CW.seq fun K4 hK4 => ?_
  refine CW.region ?_   -- region 3
  refine WL.val (Y.move rfl) (by decide) ?_   -- t21 := move t1
  refine WL.val (Y.len_slice Tryd.underlying33 rfl) (by decide) ?_   -- t22 := call len(t21) : 33
  refine WL.val (Y.sub rfl rfl ⟨by omega, by omega⟩) (by decide) ?_   -- t23 := binOp sub 3 t22 c(1:i64) 3
  refine WL.val (Y.assign rfl) (by decide) ?_   -- t8 := assign t23
  refine WL.nil ?_
  refine hK4 _ _ ?_; try clear hK4 K4
  refine CW.block ?_   -- block 0
  refine CW.loop (X := Int × Nat × Nat × Nat × List (Nat × Nat)) (fun x => [(0, .slice A m c), (1, .slice B n cb), (5, .slice (some ⟨gb, 0, none⟩) n n), (6, .slice (some ⟨x.2.2.1, 0, none⟩) (m + 1) (m + 1)), (7, .slice (some ⟨x.2.2.2.1, 0, none⟩) (m + 1) (m + 1)), (8, .int .i64 x.1)]) (fun x w0 => (x.1 : Int) = (x.2.1 : Int) - 1 ∧ x.2.1 ≤ n ∧ x.2.2.1 ≠ x.2.2.2.1 ∧ gb ≠ x.2.2.1 ∧ gb ≠ x.2.2.2.1 ∧ w.heap.size ≤ x.2.2.1 ∧ w.heap.size ≤ x.2.2.2.1 ∧ x.2.2.2.2.length = n ∧ (∀ i, x.2.1 ≤ i → i < n → x.2.2.2.2[i]? = some (bestOf base target i)) ∧ (∀ i, i < x.2.1 → x.2.2.2.2[i]? = some (0, 0)) ∧ Blk w0 gb TMt (matC x.2.2.2.2) ∧ Blk w0 x.2.2.1 3 (intC (rowsD base target (n - x.2.1))) ∧ (∃ S, S.length = m + 1 ∧ Blk w0 x.2.2.2.1 3 (intC S)) ∧ Ext w w0) (fun x => x.2.1) ((n : Int) - 1, n, gn, gr, List.replicate n (0, 0)) (by repeat (first | exact Fr.le.nil | refine Fr.le.cons rfl ?_)) ⟨rfl, Nat.le_refl _, hngr, by show gb ≠ gn; omega, by show gb ≠ gr; omega, by show w.heap.size ≤ gn; omega, by show w.heap.size ≤ gr; omega, List.length_replicate, (fun i h1 h2 => by have h1 : n ≤ i := h1; omega), (fun i h => by rw [List.getElem?_replicate, if_pos h]), hBb, (by show Blk _ gn _ (intC (rowsD base target (n - n))); rw [Nat.sub_self, rowsD, hm]; exact hBn), ⟨_, List.length_replicate, hBr⟩, hE⟩ ?_
  intro x w10 hl10
  obtain ⟨z, q, gn, gr, bests⟩ := x
  dsimp only at hl10 ⊢
  obtain ⟨hzq, hqn, hngr, hbn, hbr, hgn, hgr, hbl, hdone, hrest, hBb, hBn, hBr, hE⟩ := hl10
  have hu := hu0.ext hE
  have hv := hv0.ext hE
  have hzE := hE.size
  refine CW.seq fun K5 hK5 => ?_
  refine CW.seq fun K6 hK6 => ?_
  refine CW.region ?_   -- region 4
  refine WL.val (Y.move rfl) (by decide) ?_   -- t24 := move t8
  refine WL.val (Y.geq rfl rfl) (by decide) ?_   -- t25 := binOp geq 3 t24 c(0:i64) 3
  refine WL.nil ?_
  refine hK6 _ _ ?_; try clear hK6 K6
  first | refine CW.condD rfl (fun ht7 => ?_) (fun ht7 => ?_) | refine CW.condND rfl (fun ht7 => ?_) (fun ht7 => ?_) | refine CW.condN rfl (fun ht7 => ?_) (fun ht7 => ?_) | refine CW.cond rfl (fun ht7 => ?_) (fun ht7 => ?_)
  · -- then
    refine CW.skip ?_
    refine hK5 _ _ ?_; try clear hK5 K5
    refine CW.seq fun K8 hK8 => ?_
    obtain ⟨k, rfl⟩ : ∃ k : Nat, z = (k : Int) := ⟨z.toNat, by omega⟩; have hqk : q = k + 1 := (by omega); subst hqk; obtain ⟨S, hS, hBr⟩ := hBr; refine CW.block ?_
    refine CW.seq fun K9 hK9 => ?_
    refine CW.region ?_   -- region 6
    refine WL.val (Y.move rfl) (by decide) ?_   -- t28 := move t7
    refine WL.su (Su.clearI Tryd.underlying138 zero_int rfl hBr hS) fun w11 hR11 => ?_   -- _ := call clear(t28) : 138
    obtain ⟨hBr, hc11⟩ := hR11
    have hz11 := hc11.size
    have hE := hE.step hc11 (fun k h => by have h : k = gr := h; omega)
    have hu := hu0.ext hE
    have hv := hv0.ext hE
    have hBb := hBb.chg hc11 (fun h => hbr h)
    have hBn := hBn.chg hc11 (fun h => hngr h)
    refine WL.nil ?_
    refine hK9 _ _ ?_; try clear hK9 K9
    refine CW.seq fun K10 hK10 => ?_
    refine CW.seq fun K11 hK11 => ?_
    refine CW.region ?_   -- region 7
    refine WL.val (Y.move rfl) (by decide) ?_   -- t29 := move t0
    refine WL.val (Y.len_slice Tryd.underlying33 rfl) (by decide) ?_   -- t30 := call len(t29) : 33
    refine WL.val (Y.sub rfl rfl ⟨by omega, by omega⟩) (by decide) ?_   -- t31 := binOp sub 3 t30 c(1:i64) 3
    refine WL.val (Y.assign rfl) (by decide) ?_   -- t9 := assign t31
    refine WL.nil ?_
    refine hK11 _ _ ?_; try clear hK11 K11
    refine CW.block ?_   -- block 2
    refine CW.loop (X := Int × Nat) (fun x => [(0, .slice A m c), (1, .slice B n cb), (5, .slice (some ⟨gb, 0, none⟩) n n), (6, .slice (some ⟨gn, 0, none⟩) (m + 1) (m + 1)), (7, .slice (some ⟨gr, 0, none⟩) (m + 1) (m + 1)), (8, .int .i64 (k : Int)), (9, .int .i64 x.1)]) (fun x w0 => (x.1 : Int) = (x.2 : Int) - 1 ∧ x.2 ≤ m ∧ Blk w0 gb TMt (matC (bests.set k (bestD base (target.getD k 0) (rowsD base target (n - (k + 1))) (m - x.2)))) ∧ Blk w0 gn 3 (intC (rowsD base target (n - (k + 1)))) ∧ Blk w0 gr 3 (intC (rowPart base (target.getD k 0) (rowsD base target (n - (k + 1))) x.2)) ∧ Ext w w0) (fun x => x.2) ((m : Int) - 1, m) (by repeat (first | exact Fr.le.nil | refine Fr.le.cons rfl ?_)) ⟨rfl, Nat.le_refl _, (by show Blk _ gb _ (matC (bests.set k (bestD base _ _ (m - m)))); rw [Nat.sub_self, bestD, set_self (hrest k (by omega))]; exact hBb), hBn, (by show Blk _ gr _ (intC (rowPart base _ _ m)); rw [← hm, rowPart_top, hm]; exact hBr), hE⟩ ?_
    intro x w12 hl12
    obtain ⟨z2, q2⟩ := x
    dsimp only at hl12 ⊢
    obtain ⟨hzq2, hq2m, hBb, hBn, hBr, hE⟩ := hl12
    have hu := hu0.ext hE
    have hv := hv0.ext hE
    have hzE2 := hE.size
    refine CW.seq fun K12 hK12 => ?_
    refine CW.seq fun K13 hK13 => ?_
    refine CW.region ?_   -- region 8
    refine WL.val (Y.move rfl) (by decide) ?_   -- t32 := move t9
    refine WL.val (Y.geq rfl rfl) (by decide) ?_   -- t33 := binOp geq 3 t32 c(0:i64) 3
    refine WL.nil ?_
    refine hK13 _ _ ?_; try clear hK13 K13
    first | refine CW.condD rfl (fun ht14 => ?_) (fun ht14 => ?_) | refine CW.condND rfl (fun ht14 => ?_) (fun ht14 => ?_) | refine CW.condN rfl (fun ht14 => ?_) (fun ht14 => ?_) | refine CW.cond rfl (fun ht14 => ?_) (fun ht14 => ?_)
    · -- then
      refine CW.skip ?_
      refine hK12 _ _ ?_; try clear hK12 K12
      obtain ⟨k2, rfl⟩ : ∃ k : Nat, z2 = (k : Int) := ⟨z2.toNat, by omega⟩; have hqk2 : q2 = k2 + 1 := (by omega); subst hqk2; refine CW.seq_to (X := Unit) (fun _ => [(0, .slice A m c), (1, .slice B n cb), (5, .slice (some ⟨gb, 0, none⟩) n n), (6, .slice (some ⟨gn, 0, none⟩) (m + 1) (m + 1)), (7, .slice (some ⟨gr, 0, none⟩) (m + 1) (m + 1)), (8, .int .i64 (k : Int)), (9, .int .i64 (k2 : Int))]) (fun _ w0 => Blk w0 gb TMt (matC (bests.set k (bestD base (target.getD k 0) (rowsD base target (n - (k + 1))) (m - k2)))) ∧ Blk w0 gn 3 (intC (rowsD base target (n - (k + 1)))) ∧ Blk w0 gr 3 (intC (rowPart base (target.getD k 0) (rowsD base target (n - (k + 1))) k2)) ∧ Ext w w0) ?_ ?_
      · skip
        refine CW.block ?_   -- block 3
        refine CW.seq fun K16 hK16 => ?_
        refine CW.seq fun K17 hK17 => ?_
        refine CW.quiet (fun wq => Ext w12 wq) (by kernel_rfl) (by kernel_rfl) Chg.drew ?_
        obtain ⟨a1, rfl, hma⟩ := hu.mem.1 (by omega); obtain ⟨b1, rfl, hmb⟩ := hv.mem.1 (by omega); obtain ⟨x1, hxk⟩ : ∃ y, base[k2]? = some y := ⟨_, List.getElem?_eq_getElem (by omega)⟩; obtain ⟨y1, hyk⟩ : ∃ y, target[k]? = some y := ⟨_, List.getElem?_eq_getElem (by omega)⟩; have hyT : target.getD k 0 = y1 := (by rw [List.getD_eq_getElem?_getD, hyk]; rfl); obtain ⟨nv, hnv⟩ : ∃ v, (rowsD base target (n - (k + 1)))[k2 + 1]? = some v := ⟨_, List.getElem?_eq_getElem (by rw [rowsD_length]; omega)⟩; have hnvl := rowsD_le base target (by omega) hnv; refine QL.val (fun wq hq => Y.move rfl) (by decide) ?_
        refine QL.val (fun wq hq => Y.move rfl) (by decide) ?_   -- t37 := move t9
        refine QL.val (fun wq hq => Y.indexAddrN Tryd.underlying33 rfl rfl sz0_uint8 (by omega)) (by decide) ?_   -- t38 := indexAddr 33 t36 t37
        refine QL.val (fun wq hq => Y.load1 Tryd.underlying5 rfl ((hma.ext hq) (k2 * 1) _ (by rw [Nat.mul_one]; exact bytesC_get hxk)) rfl) (by decide) ?_   -- t39 := load 5 t38
        refine QL.val (fun wq hq => Y.move rfl) (by decide) ?_   -- t40 := move t1
        refine QL.val (fun wq hq => Y.move rfl) (by decide) ?_   -- t41 := move t8
        refine QL.val (fun wq hq => Y.indexAddrN Tryd.underlying33 rfl rfl sz0_uint8 (by omega)) (by decide) ?_   -- t42 := indexAddr 33 t40 t41
        refine QL.val (fun wq hq => Y.load1 Tryd.underlying5 rfl ((hmb.ext hq) (k * 1) _ (by rw [Nat.mul_one]; exact bytesC_get hyk)) rfl) (by decide) ?_   -- t43 := load 5 t42
        refine QL.val (fun wq hq => Y.neq rfl rfl) (by decide) ?_   -- t44 := binOp neq 5 t39 t43 5
        refine QL.nil fun w13 hx13 => ?_
        have hz13 := hx13.size
        have hE := hE.thenExt hx13
        have hu := hu.ext hx13
        have hv := hv.ext hx13
        refine hK17 _ _ ?_; try clear hK17 K17
        first | refine CW.condD rfl (fun ht18 => ?_) (fun ht18 => ?_) | refine CW.condND rfl (fun ht18 => ?_) (fun ht18 => ?_) | refine CW.condN rfl (fun ht18 => ?_) (fun ht18 => ?_) | refine CW.cond rfl (fun ht18 => ?_) (fun ht18 => ?_)
        · -- then
          refine CW.exit ?_   -- exit 3
          have hne : base[k2]? ≠ some (target.getD k 0) := by rw [hxk, hyT]; intro h; injection h with h; exact (toNat_ne.1 (by assumption)) h
          exact ⟨(), (by repeat (first | exact Fr.le.nil | refine Fr.le.cons rfl ?_)), by rw [← hm, bestD_no (by omega) (fun h => hne h.1), hm]; exact hBb.ext hx13, hBn.ext hx13, by rw [rowPart_same (rowAt_no hne)]; exact hBr.ext hx13, hE⟩
        -- else
        refine CW.skip ?_
        refine hK16 _ _ ?_; try clear hK16 K16
        refine CW.seq fun K19 hK19 => ?_
        refine CW.region ?_   -- region 11
        refine WL.val (Y.move rfl) (by decide) ?_   -- t45 := move t7
        refine WL.val (Y.move rfl) (by decide) ?_   -- t46 := move t9
        refine WL.val (Y.move rfl) (by decide) ?_   -- t47 := move t6
        refine WL.val (Y.move rfl) (by decide) ?_   -- t48 := move t9
        refine WL.val (Y.add rfl rfl ⟨by omega, by omega⟩) (by decide) ?_   -- t49 := binOp add 3 t48 c(1:i64) 3
        refine WL.val (Y.indexAddrN (i := k2 + 1) Tryd.underlying138 rfl rfl sz0_int (by omega)) (by decide) ?_   -- t50 := indexAddr 138 t47 t49
        refine WL.val (Y.load1 Tryd.underlying3 rfl ((hBn.ext hx13).icell hnv) rfl) (by decide) ?_   -- t51 := load 3 t50
        refine WL.val (Y.add rfl rfl ⟨by omega, by omega⟩) (by decide) ?_   -- t52 := binOp add 3 t51 c(1:i64) 3
        refine WL.val (Y.indexAddrN Tryd.underlying138 rfl rfl sz0_int (by omega)) (by decide) ?_   -- t53 := indexAddr 138 t45 t46
        refine WL.storeC rfl rfl rfl rfl rfl sz_int (hBr.ext hx13) (by rw [intC_length, rowPart_length]; omega) (fun w14 hc14 hB14_ => ?_)   -- _ := store 3 t53 t52
        have hz14 := hc14.size; have hE := hE.step hc14 (fun k h => by omega); have hu := hu.chg hc14 (fun h0 k hk h => by have := hul h0 k hk; omega); have hv := hv.chg hc14 (fun h0 k hk h => by have := hvl h0 k hk; omega)
        have hxy : base[k2]? = some (target.getD k 0) := by rw [hxk, hyT]; exact congrArg some (Decidable.not_not.1 fun h => (by assumption : ¬ ((x1.toNat : Int) ≠ (y1.toNat : Int))) (toNat_ne.2 h))
        have hra := rowAt_yes hxy hnv
        have hBr : Blk w14 gr 3 (intC (rowPart base (target.getD k 0) (rowsD base target (n - (k + 1))) k2)) := by
          have h := hB14_
          rw [show ((nv : Int) + 1) = ((nv + 1 : Nat) : Int) from rfl, intC_set, ← hra, rowPart_set (by omega)] at h
          exact h
        have hBn := (hBn.ext hx13).chg hc14 (fun h => hngr h)
        have hBb := (hBb.ext hx13).chg hc14 (fun h => hbr h)
        refine WL.nil ?_
        refine hK19 _ _ ?_; try clear hK19 K19
        refine CW.seq fun K20 hK20 => ?_
        refine CW.quiet (fun wq => Ext w14 wq) (by kernel_rfl) (by kernel_rfl) Chg.drew ?_
        refine QL.val (fun wq hq => Y.move rfl) (by decide) ?_   -- t54 := move t7
        refine QL.val (fun wq hq => Y.move rfl) (by decide) ?_   -- t55 := move t9
        refine QL.val (fun wq hq => Y.indexAddrN Tryd.underlying138 rfl rfl sz0_int (by omega)) (by decide) ?_   -- t56 := indexAddr 138 t54 t55
        refine QL.val (fun wq hq => Y.load1 Tryd.underlying3 rfl ((hBr.ext hq).icell (show (rowPart base (target.getD k 0) (rowsD base target (n - (k + 1))) k2)[k2]? = some (Go.Pl.rowAt base (target.getD k 0) (rowsD base target (n - (k + 1))) k2) by rw [rowPart_at (by omega), if_neg (by omega)])) rfl) (by decide) ?_   -- t57 := load 3 t56
        refine QL.val (fun wq hq => Y.move rfl) (by decide) ?_   -- t58 := move t5
        refine QL.val (fun wq hq => Y.move rfl) (by decide) ?_   -- t59 := move t8
        refine QL.val (fun wq hq => Y.indexAddrN Tryd.underlying118 rfl rfl sz0_deltamatch (by omega)) (by decide) ?_   -- t60 := indexAddr 118 t58 t59
        refine QL.val (fun wq hq => Y.fieldAddr fo_deltamatch1 rfl) (by decide) ?_   -- t61 := fieldAddr 121 t60 1
        refine QL.val (fun wq hq => Y.load1 Tryd.underlying3 rfl (((hBb.ext hq).kmem encM_length (i := k) (x := bestD base (target.getD k 0) (rowsD base target (n - (k + 1))) (m - (k2 + 1))) (by rw [List.getElem?_set, if_pos rfl, if_pos (by omega)])).cell 1 rfl) rfl) (by decide) ?_   -- t62 := load 3 t61
        refine QL.val (fun wq hq => Y.geq rfl rfl) (by decide) ?_   -- t63 := binOp geq 3 t57 t62 3
        refine QL.nil fun w15 hx15 => ?_
        have hz15 := hx15.size
        have hE := hE.thenExt hx15
        have hu := hu.ext hx15
        have hv := hv.ext hx15
        refine hK20 _ _ ?_; try clear hK20 K20
        first | refine CW.condD rfl (fun ht21 => ?_) (fun ht21 => ?_) | refine CW.condND rfl (fun ht21 => ?_) (fun ht21 => ?_) | refine CW.condN rfl (fun ht21 => ?_) (fun ht21 => ?_) | refine CW.cond rfl (fun ht21 => ?_) (fun ht21 => ?_)
        · -- then
          refine CW.region ?_   -- region 13
          refine WL.val (Y.move rfl) (by decide) ?_   -- t64 := move t5
          refine WL.val (Y.move rfl) (by decide) ?_   -- t65 := move t8
          refine WL.val (Y.move rfl) (by decide) ?_   -- t66 := move t9
          refine WL.val (Y.move rfl) (by decide) ?_   -- t67 := move t7
          refine WL.val (Y.move rfl) (by decide) ?_   -- t68 := move t9
          refine WL.val (Y.indexAddrN Tryd.underlying138 rfl rfl sz0_int (by omega)) (by decide) ?_   -- t69 := indexAddr 138 t67 t68
          refine WL.val (Y.load1 Tryd.underlying3 rfl ((hBr.ext hx15).icell (show (rowPart base (target.getD k 0) (rowsD base target (n - (k + 1))) k2)[k2]? = some (Go.Pl.rowAt base (target.getD k 0) (rowsD base target (n - (k + 1))) k2) by rw [rowPart_at (by omega), if_neg (by omega)])) rfl) (by decide) ?_   -- t70 := load 3 t69
          refine WL.val (Y.build rfl (build_match _ _ _)) (by decide) ?_   -- t71 := build 121 [(0,t66), (1,t70)]
          refine WL.val (Y.indexAddrN Tryd.underlying118 rfl rfl sz0_deltamatch (by omega)) (by decide) ?_   -- t72 := indexAddr 118 t64 t65
          refine WL.storeK (enc := encM) encM_length one_encM (v := (k2, Go.Pl.rowAt base (target.getD k 0) (rowsD base target (n - (k + 1))) k2)) rfl rfl rfl rfl (by kernel_rfl) (hBb.ext hx15) (by rw [List.getElem?_set, if_pos rfl, if_pos (by omega)]) (fun w16 hc16 hB16_ => ?_)   -- _ := store 121 t72 t71
          have hz16 := hc16.size; have hE := hE.step hc16 (fun k h => by omega); have hu := hu.chg hc16 (fun h0 k hk h => by have := hul h0 k hk; omega); have hv := hv.chg hc16 (fun h0 k hk h => by have := hvl h0 k hk; omega)
          rw [List.set_set] at hB16_
          have hBn := (hBn.ext hx15).chg hc16 (fun h => hbn h.symm)
          have hBr := (hBr.ext hx15).chg hc16 (fun h => hbr h.symm)
          refine WL.nil ?_
          exact ⟨(), (by repeat (first | exact Fr.le.nil | refine Fr.le.cons rfl ?_)), by rw [← hm, bestD_yes (by omega) hxy (by rw [hm]; omega)]; exact hB16_, hBn, hBr, hE⟩
        -- else
        refine CW.skip ?_
        exact ⟨(), (by repeat (first | exact Fr.le.nil | refine Fr.le.cons rfl ?_)), by rw [← hm, bestD_no (by omega) (fun h => (by assumption : ¬ (_ ≤ _)) (by rw [← hm]; exact Int.ofNat_le.2 h.2)), hm]; exact hBb.ext hx15, hBn.ext hx15, hBr.ext hx15, hE⟩
      rintro u w17 hj17
      obtain ⟨hBb, hBn, hBr, hE⟩ := hj17
      refine CW.region ?_   -- region 9
      refine WL.val (Y.move rfl) (by decide) ?_   -- t34 := move t9
      refine WL.val (Y.sub rfl rfl ⟨by omega, by omega⟩) (by decide) ?_   -- t35 := binOp sub 3 t34 c(1:i64) 3
      refine WL.val (Y.assign rfl) (by decide) ?_   -- t9 := assign t35
      refine WL.nil ?_
      exact ⟨((k2 : Int) - 1, k2), by show k2 < k2 + 1; omega, (by repeat (first | exact Fr.le.nil | refine Fr.le.cons rfl ?_)), rfl, by show k2 ≤ m; omega, hBb, hBn, hBr, hE⟩
    -- else
    refine CW.exit ?_   -- exit 2
    refine hK10 _ _ ?_; try clear hK10 K10
    refine CW.region ?_   -- region 14
    refine WL.val (Y.move rfl) (by decide) ?_   -- t73 := move t7
    refine WL.val (Y.move rfl) (by decide) ?_   -- t74 := move t6
    refine WL.val (Y.assign rfl) (by decide) ?_   -- t6 := assign t73
    refine WL.val (Y.assign rfl) (by decide) ?_   -- t7 := assign t74
    refine WL.nil ?_
    refine hK8 _ _ ?_; try clear hK8 K8
    refine CW.region ?_   -- region 5
    refine WL.val (Y.move rfl) (by decide) ?_   -- t26 := move t8
    refine WL.val (Y.sub rfl rfl ⟨by omega, by omega⟩) (by decide) ?_   -- t27 := binOp sub 3 t26 c(1:i64) 3
    refine WL.val (Y.assign rfl) (by decide) ?_   -- t8 := assign t27
    refine WL.nil ?_
    have hq0 : q2 = 0 := by omega
    subst hq0
    have hn1 : n - k = n - (k + 1) + 1 := by omega
    have hBr2 : Blk w12 gr 3 (intC (rowsD base target (n - k))) := by
      rw [hn1, rowsD, show target.length - (n - (k + 1) + 1) = k by omega, ← rowPart_zero]
      exact hBr
    refine ⟨((k : Int) - 1, k, gr, gn, bests.set k (bestD base (target.getD k 0) (rowsD base target (n - (k + 1))) (m - 0))), by show k < k + 1; omega, (by repeat (first | exact Fr.le.nil | refine Fr.le.cons rfl ?_)), rfl, by show k ≤ n; omega, fun h => hngr h.symm, hbr, hbn, hgr, hgn, by show (bests.set _ _).length = n; rw [List.length_set, hbl], ?_, ?_, hBb, hBr2, ⟨_, by rw [rowsD_length, hm], hBn⟩, hE⟩
    · intro i h1 h2
      have h1 : k ≤ i := h1
      show (bests.set _ _)[i]? = _
      by_cases hik : k = i
      · subst hik
        rw [List.getElem?_set, if_pos rfl, if_pos (by omega), bestOf, show target.length - 1 - k = n - (k + 1) by omega, hm, Nat.sub_zero]
      · rw [List.getElem?_set, if_neg hik]
        exact hdone i (by omega) h2
    · intro i h
      have h : i < k := h
      show (bests.set _ _)[i]? = _
      rw [List.getElem?_set, if_neg (by omega)]
      exact hrest i (by omega)
  -- else
  refine CW.exit ?_   -- exit 0
  refine hK3 _ _ ?_; try clear hK3 K3
  refine CW.seq fun K22 hK22 => ?_
  refine CW.region ?_   -- region 15
  refine WL.val (Y.move rfl) (by decide) ?_   -- t75 := move t5
  refine WL.val (Y.assign rfl) (by decide) ?_   -- t4 := assign t75
  refine WL.nil ?_
  refine hK22 _ _ ?_; try clear hK22 K22
  refine CW.ret ⟨_, rfl, ?_⟩
  have hq0 : q = 0 := by omega
  subst hq0
  have he : bests = (List.range target.length).map (bestOf base target) := by
    apply List.ext_getElem?
    intro i
    by_cases hi : i < n
    · rw [hdone i (by omega) hi, List.getElem?_map, List.getElem?_range (by omega)]; rfl
    · rw [List.getElem?_eq_none (by omega), List.getElem?_eq_none (by simp; omega)]
  exact ⟨gb, by rw [hn], by omega, by rw [← he]; exact hBb, hE⟩
end Go.Proofs.YtoncdfpohdchgaaDoor

/- A delta is written: delta.writer's methods and Make, walked. No condition. -/
namespace Go.Fw
section
variable {w : World} {a : Addr} {u v : Value} (h : Mem w a [u, v])
include h
theorem Mem.deltawriter0 : w.cell? (a.add 0) = some u := h.cell 0 rfl
theorem Mem.deltawriter1 : w.cell? (a.add 1) = some v := h.cell 1 rfl
end
theorem Mem.deltamatch0 {w : World} {a : Addr} {u v : Value} (h : Mem w a [u, v]) : w.cell? (a.add 0) = some u := h.cell 0 rfl
theorem Mem.deltamatch1 {w : World} {a : Addr} {u v : Value} (h : Mem w a [u, v]) : w.cell? (a.add 1) = some v := h.cell 1 rfl
theorem Own.cut0 {w : World} {e : TypeId} {k n c : Nat} {A : Option Addr} {xs : List Value} (h : Own w e k (.slice A n c) xs) : Own w e k (.slice A 0 c) [] := by
  rcases h with ⟨h, rfl⟩ | ⟨g, n', cap, rest, fz, h, hh, hl, hnc, hcm, hal, hfz⟩
  · injection h with h1 h2 h3; subst h1; subst h3; exact .inl ⟨rfl, rfl⟩
  · injection h with h1 h2 h3; subst h1; subst h2; subst h3
    exact .inr ⟨g, 0, c, xs ++ rest, fz, rfl, hh, by simp, Nat.zero_le _, hcm, hal, hfz⟩
end Go.Fw
namespace Go.Proofs.YtoncdfpohdchgaaDoor
open Go.RowKit Go.Fw Go.Pl
abbrev TWr : TypeId := 116
theorem fo_deltawriter0 : FieldOff Tryd.prog TWr 0 0 := ⟨_, _, 1, Tryd.underlying116, rfl, by kernel_rfl, by decide, rfl⟩
theorem fo_deltawriter1 : FieldOff Tryd.prog TWr 1 1 := ⟨_, _, 1, Tryd.underlying116, rfl, by kernel_rfl, by decide, rfl⟩
theorem info_wr : ∃ i : TypeInfo, Tryd.prog.info? TWr = some i ∧ i.zero = some (.agg #[.slice none 0 0, .slice none 0 0]) := by
  have h : (Tryd.prog.info? TWr).map (fun i => i.zero) = some (some (.agg #[.slice none 0 0, .slice none 0 0])) := by kernel_rfl
  obtain ⟨i, hi, h⟩ := Option.map_eq_some_iff.1 h
  exact ⟨i, hi, h⟩
theorem sz_deltamatch (p : Nat × Nat) : (Tryd.prog.info? TMt).map (·.size) = some (encM p).length := sz0_deltamatch
theorem as_deltamatch {n : NN} {Φ : Exit → Fr → World → Prop} {fr : Fr} {w : World} {ops : Array Oper} {rest : List Oper} {d : Nat} {x : Operand} {ty ty' : TypeId} {pos pos' : String} {aft aft' : Array Edge} {v : Nat × Nat}
    (hx : ev fr x = some (.agg (encM v).toArray)) (hxd : x ≠ .tmp d) (hd : d < n.1)
    (h : ∀ g w', Ext w w' → w.heap.size ≤ g → Blk w' g TMt (encM v) → WL Tryd.prog ops n Φ rest ((d, .pointer (some ⟨g, 0, none⟩)) :: fr) w') :
    WL Tryd.prog ops n Φ (⟨some d, .alloc TMt, ty, pos, aft, none⟩ :: ⟨none, .store TMt (.tmp d) x, ty', pos', aft', none⟩ :: rest) fr w := by
  obtain ⟨i, z, hi, hz, hzc, hs, _⟩ := mi_match
  exact WL.allocStore (zs := [.int .i64 0, .int .i64 0]) (cs := encM v) hi hz hzc (by rw [hs]; rfl) rfl hx hxd rfl (one_encM v) hd h
/-- A delta's writer: what is written, what is not written yet. -/
structure WAt (w : World) (g : Nat) (u v : Value) (out rest : List UInt8) : Prop where
  blk : Blk w g TWr [u, v]
  o : Own w 5 1 u (bytesC out)
  r : Own w 5 1 v (bytesC rest)
  nu : ∀ k, u.ownBlock = some k → k ≠ g ∧ v.ownBlock ≠ some k
  nv : ∀ k, v.ownBlock = some k → k ≠ g
theorem WAt.chg {w w' : World} {g : Nat} {u v : Value} {out rest : List UInt8} {S : Nat → Prop} (h : WAt w g u v out rest) (hc : Chg S w w') (hg : ¬ S g) (hu : ∀ k, u.ownBlock = some k → ¬ S k) (hv : ∀ k, v.ownBlock = some k → ¬ S k) : WAt w' g u v out rest :=
  ⟨h.blk.chg hc hg, h.o.chg hc hu, h.r.chg hc hv, h.nu, h.nv⟩
theorem WAt.ext {w w' : World} {g : Nat} {u v : Value} {out rest : List UInt8} (h : WAt w g u v out rest) (hc : Ext w w') : WAt w' g u v out rest := h.chg hc (fun f => f) (fun _ _ f => f) (fun _ _ f => f)
/-- What Make answers. -/
def mkE (base target : List UInt8) : Int := if 4096 < base.length ∨ 4096 < target.length then 3 else 0
def mkR (base target : List UInt8) : List UInt8 := if 4096 < base.length ∨ 4096 < target.length then [] else mkB base target

theorem wnum_any (g : Nat) (u v : Value) (out rest : List UInt8) (n : Int) (w : World) (h : WAt w g u v out rest) (hn : n < 9223372036854775808) (hl : out.length ≤ 100000000) : Calls Tryd.prog 59 #[.pointer (some ⟨g, 0, none⟩), .int .i64 n] w (Ret fun r w' => r = .tuple #[] ∧ (∃ u', WAt w' g u' v (out ++ numB n) rest ∧ ∀ k, u'.ownBlock = some k → u.ownBlock = some k ∨ w.heap.size ≤ k) ∧ Chg (fun k => k = g ∨ u.ownBlock = some k) w w') := by
  have hgl := h.blk.lt
  have hvl := h.r.lt
  refine calls_of_CW 20 [] [(0, .pointer (some ⟨g, 0, none⟩)), (1, .int .i64 n)] Tryd.func59 rfl rfl rfl (by simp) args2 ?_
  have hE : Chg (fun k => k = g ∨ u.ownBlock = some k) w w := Chg.refl
  refine CW.seq fun K1 hK1 => ?_
  refine CW.region ?_   -- region 0
  refine WL.val (Y.move rfl) (by decide) ?_   -- t7 := move t1
  refine WL.call Tryd.func41 rfl rfl rfl (num_any n _ hn) (by simp) ?_; rintro v8 w1 hR1   -- t8 := call F41(t7) : 3
  obtain ⟨b8, rfl, hOb, hcb, hfb⟩ := hR1
  have hx1 : Ext w w1 := hcb.toExt (fun k _ h => by simp [Value.ownBlock] at h)
  have hz1 := hx1.size
  have hE := hE.thenExt hx1
  have h := h.ext hx1
  have hOb : Own w1 5 1 b8 (bytesC (numB n)) := by simpa using hOb
  have hnb := numB_len hn
  refine WL.val (Y.move rfl) (by decide) ?_   -- t6 := move t8
  refine WL.val (Y.extract rfl rfl) (by decide) ?_   -- t9 := extract t6 0
  refine WL.val (Y.extract rfl rfl) (by decide) ?_   -- t10 := extract t6 1
  refine WL.val (Y.assign rfl) (by decide) ?_   -- t4 := assign t9
  refine WL.val (Y.assign rfl) (by decide) ?_   -- t5 := assign t10
  refine WL.nil ?_
  refine hK1 _ _ ?_; try clear hK1 K1
  refine CW.region ?_   -- region 1
  refine WL.val (Y.move rfl) (by decide) ?_   -- t11 := move t0
  refine WL.val (Y.move rfl) (by decide) ?_   -- t12 := move t0
  refine WL.val (Y.nilCheck rfl) (by decide) ?_   -- t13 := nilCheck t12
  refine WL.val (Y.fieldAddr fo_deltawriter0 rfl) (by decide) ?_   -- t14 := fieldAddr 116 t13 0
  refine WL.val (Y.load1 Tryd.underlying33 rfl h.blk.mem.deltawriter0 rfl) (by decide) ?_   -- t15 := load 33 t14
  refine WL.val (Y.move rfl) (by decide) ?_   -- t16 := move t4
  refine WL.st (St.app (xs := out) (ys := numB n) Tryd.underlying33 Tryd.underlying33 ai_u8 rfl rfl h.o (Src.own hOb) (by omega)) (by decide) fun v17 w2 hR2 => ?_   -- t17 := call append(t15, t16) : 33,33
  obtain ⟨hO2, hc2, hf2⟩ := hR2
  have hz2 := hc2.size
  have hE := hE.stepO hc2 (fun k h => .inl (.inr h))
  obtain ⟨A2, m2, c2, rfl⟩ := hO2.lens
  have hW := h.blk.chg hc2 (fun x => (h.nu _ x).1 rfl)
  have hr := h.r.chg hc2 (fun k hk x => (h.nu k x).2 hk)
  have hf : ∀ k, (Value.slice A2 m2 c2).ownBlock = some k → (u.ownBlock = some k ∨ w1.heap.size ≤ k) := by
    rcases hf2 with h_ | h_
    · intro k hk; rw [h_] at hk; exact .inl hk
    · intro k hk; exact .inr (h_ k hk)
  have hun : ∀ k, (Value.slice A2 m2 c2).ownBlock = some k → k ≠ g ∧ v.ownBlock ≠ some k := by
    intro k hk
    rcases hf k hk with h_ | h_
    · exact h.nu k h_
    · exact ⟨by omega, fun x => by have := hvl k x; omega⟩
  refine WL.val (Y.nilCheck rfl) (by decide) ?_   -- t18 := nilCheck t11
  refine WL.val (Y.fieldAddr fo_deltawriter0 rfl) (by decide) ?_   -- t19 := fieldAddr 116 t18 0
  refine WL.store (g := g) (pre := []) (old := [u]) (post := [v]) (new := [.slice A2 m2 c2]) rfl rfl rfl rfl (by kernel_rfl) (by simpa using hW) (by first | rfl | (simp [digC_length, opC_length]; done) | (simp only [digC_length, opC_length]; omega)) (one1 rfl) (fun w3 hc3 hB3_ => ?_)   -- _ := store 33 t19 t17
  have hz3 := hc3.size; have hE := hE.stepO hc3 (fun k h => (by show (k = g ∨ u.ownBlock = some k) ∨ _; omega)); have h := h
  skip
  refine WL.nil ?_
  refine ⟨_, rfl, ?_⟩
  exact ⟨rfl, ⟨_, ⟨by simpa using hB3_, hO2.chg hc3 (fun k hk x => (hun k hk).1 x), hr.chg hc3 (fun k hk x => h.nv k hk x), hun, h.nv⟩, fun k hk => (hf k hk).imp id (fun h => by omega)⟩, hE⟩
set_option maxRecDepth 100000 in
theorem wflush_any (g : Nat) (u0 v : Value) (out rest : List UInt8) (w : World) (h : WAt w g u0 v out rest) (hl : out.length + rest.length ≤ 90000000) : Calls Tryd.prog 61 #[.pointer (some ⟨g, 0, none⟩)] w (Ret fun r w' => r = .tuple #[] ∧ (∃ u' v', WAt w' g u' v' (out ++ ownB rest) [] ∧ (∀ k, u'.ownBlock = some k → u0.ownBlock = some k ∨ w.heap.size ≤ k) ∧ ∀ k, v'.ownBlock = some k → v.ownBlock = some k) ∧ Chg (fun k => k = g ∨ u0.ownBlock = some k) w w') := by
  have hgl := h.blk.lt
  have hvl := h.r.lt
  obtain ⟨B, n, cb, rfl⟩ := h.r.lens
  have hrl := h.r.by.len.1
  refine calls_of_CW 36 [] [(0, .pointer (some ⟨g, 0, none⟩))] Tryd.func61 rfl rfl rfl (by simp) args1 ?_
  have hE : Chg (fun k => k = g ∨ u0.ownBlock = some k) w w := Chg.refl
  refine CW.seq_to (X := Value) (fun y => [(0, .pointer (some ⟨g, 0, none⟩))]) (fun y w0 => WAt w0 g y (.slice B n cb) (out ++ ownB rest) rest ∧ (∀ k, y.ownBlock = some k → u0.ownBlock = some k ∨ w.heap.size ≤ k) ∧ Chg (fun k => k = g ∨ u0.ownBlock = some k) w w0) ?_ ?_
  · skip
    refine CW.seq fun K2 hK2 => ?_
    refine CW.region ?_   -- region 0
    refine WL.val (Y.move rfl) (by decide) ?_   -- t2 := move t0
    refine WL.val (Y.nilCheck rfl) (by decide) ?_   -- t3 := nilCheck t2
    refine WL.val (Y.fieldAddr fo_deltawriter1 rfl) (by decide) ?_   -- t4 := fieldAddr 116 t3 1
    refine WL.val (Y.load1 Tryd.underlying33 rfl h.blk.mem.deltawriter1 rfl) (by decide) ?_   -- t5 := load 33 t4
    refine WL.val (Y.len_slice Tryd.underlying33 rfl) (by decide) ?_   -- t6 := call len(t5) : 33
    refine WL.val (Y.gtr rfl rfl) (by decide) ?_   -- t7 := binOp gtr 3 t6 c(0:i64) 3
    refine WL.nil ?_
    refine hK2 _ _ ?_; try clear hK2 K2
    first | refine CW.condD rfl (fun ht3 => ?_) (fun ht3 => ?_) | refine CW.condND rfl (fun ht3 => ?_) (fun ht3 => ?_) | refine CW.condN rfl (fun ht3 => ?_) (fun ht3 => ?_) | refine CW.cond rfl (fun ht3 => ?_) (fun ht3 => ?_)
    · -- then
      refine CW.seq fun K4 hK4 => ?_
      refine CW.region ?_   -- region 1
      refine WL.val (Y.move rfl) (by decide) ?_   -- t8 := move t0
      refine WL.val (Y.move rfl) (by decide) ?_   -- t9 := move t0
      refine WL.val (Y.nilCheck rfl) (by decide) ?_   -- t10 := nilCheck t9
      refine WL.val (Y.fieldAddr fo_deltawriter1 rfl) (by decide) ?_   -- t11 := fieldAddr 116 t10 1
      refine WL.val (Y.load1 Tryd.underlying33 rfl h.blk.mem.deltawriter1 rfl) (by decide) ?_   -- t12 := load 33 t11
      refine WL.val (Y.len_slice Tryd.underlying33 rfl) (by decide) ?_   -- t13 := call len(t12) : 33
      refine WL.val (Y.mul rfl rfl ⟨by omega, by omega⟩) (by decide) ?_   -- t14 := binOp mul 3 c(2:i64) t13 3
      refine WL.call Tryd.func59 rfl rfl rfl (wnum_any g u0 _ out rest (2 * (n : Int)) _ h (by omega) (by omega)) (by simp) ?_; rintro v15 w1 hR1   -- t15 := call F59(t8, t14) : 137,3
      obtain ⟨rfl, ⟨u1, h, hu1⟩, hc1⟩ := hR1
      have hz1 := hc1.size
      have hE := hE.trans hc1 (fun _ _ h => h)
      have hvi := vi_len9 (n := 2 * rest.length) (by omega)
      rw [show 2 * (n : Int) = ((2 * rest.length : Nat) : Int) from by omega, numB_nat] at h
      obtain ⟨A, m, c, rfl⟩ := h.o.lens
      refine WL.nil ?_
      refine hK4 _ _ ?_; try clear hK4 K4
      refine CW.held (fun wq => Chg (fun k => k = g ∨ (Value.slice A m c).ownBlock = some k) w1 wq ∧ wq.cell? ((⟨g, 0, none⟩ : Addr).add 1) = some (.slice B n cb)) (by kernel_rfl) 13 rfl fun w2 hx2 => ?_
      have hS : Chg (fun k => k = g ∨ (Value.slice A m c).ownBlock = some k) w1 w2 ∧ w2.cell? ((⟨g, 0, none⟩ : Addr).add 1) = some (.slice B n cb) := ⟨hx2.chg, (h.ext hx2).blk.mem.cell 1 rfl⟩
      have h := h.ext hx2
      have hz2 := hx2.size
      refine RH.take 0 (fun _ _ _ _ h => h) (by kernel_rfl) hS rfl (by kernel_rfl) (by kernel_rfl) (fun wq hq => Y.move rfl) (by decide) ?_   -- t16 := move t0
      refine RH.take 1 (fun _ _ _ _ h => h) (by kernel_rfl) hS rfl (by kernel_rfl) (by kernel_rfl) (fun wq hq => Y.move rfl) (by decide) ?_   -- t17 := move t0
      refine RH.take 2 (fun _ _ _ _ h => h) (by kernel_rfl) hS rfl (by kernel_rfl) (by kernel_rfl) (fun wq hq => Y.nilCheck rfl) (by decide) ?_   -- t18 := nilCheck t17
      refine RH.take 3 (fun _ _ _ _ h => h) (by kernel_rfl) hS rfl (by kernel_rfl) (by kernel_rfl) (fun wq hq => Y.fieldAddr fo_deltawriter0 rfl) (by decide) ?_   -- t19 := fieldAddr 116 t18 0
      refine RH.take 5 (fun _ _ _ _ h => h) (by kernel_rfl) hS rfl (by kernel_rfl) (by kernel_rfl) (fun wq hq => Y.move rfl) (by decide) ?_   -- t21 := move t0
      refine RH.take 6 (fun _ _ _ _ h => h) (by kernel_rfl) hS rfl (by kernel_rfl) (by kernel_rfl) (fun wq hq => Y.nilCheck rfl) (by decide) ?_   -- t22 := nilCheck t21
      refine RH.take 7 (fun _ _ _ _ h => h) (by kernel_rfl) hS rfl (by kernel_rfl) (by kernel_rfl) (fun wq hq => Y.fieldAddr fo_deltawriter1 rfl) (by decide) ?_   -- t23 := fieldAddr 116 t22 1
      refine RH.take 8 (fun _ _ _ _ h => h) (by kernel_rfl) hS rfl (by kernel_rfl) (by kernel_rfl) (fun wq hq => Y.load1 Tryd.underlying33 rfl hq.2 rfl) (by decide) ?_   -- t24 := load 33 t23
      refine RH.one 4 (by kernel_rfl) ?_
      refine RS.val rfl (Y.load1 Tryd.underlying33 rfl h.blk.mem.deltawriter0 rfl) (by decide) ⟨hS, ?_⟩   -- t20 := load 33 t19
      refine RH.one 9 (by kernel_rfl) ?_
      refine RS.st rfl (St.app (xs := out ++ vi (2 * rest.length)) (ys := rest) Tryd.underlying33 Tryd.underlying33 ai_u8 rfl rfl h.o (Src.by h.r.by) (by rw [List.length_append]; omega)) (by decide) fun v25 w3 hR3 => ?_   -- call append(t20, t24) : 33,33
      obtain ⟨hO3, hc3, hf3⟩ := hR3
      have hz3 := hc3.size
      obtain ⟨A3, m3, c3, rfl⟩ := hO3.lens
      have hS : Chg (fun k => k = g ∨ (Value.slice A m c).ownBlock = some k) w1 w3 ∧ w3.cell? ((⟨g, 0, none⟩ : Addr).add 1) = some (.slice B n cb) := ⟨hS.1.trans hc3 (fun k _ h => .inr h), hc3.cell hS.2 (by rw [block_add]; exact fun x => (h.nu _ x).1 rfl)⟩
      have hW := h.blk.chg hc3 (fun x => (h.nu _ x).1 rfl)
      have hr := h.r.chg hc3 (fun k hk x => (h.nu k x).2 hk)
      have hf : ∀ k, (Value.slice A3 m3 c3).ownBlock = some k → ((Value.slice A m c).ownBlock = some k ∨ w2.heap.size ≤ k) := by
        rcases hf3 with h_ | h_
        · intro k hk; rw [h_] at hk; exact .inl hk
        · intro k hk; exact .inr (h_ k hk)
      have hun : ∀ k, (Value.slice A3 m3 c3).ownBlock = some k → k ≠ g ∧ (Value.slice B n cb).ownBlock ≠ some k := by
        intro k hk
        rcases hf k hk with h_ | h_
        · exact h.nu k h_
        · exact ⟨by omega, fun x => by have := hvl k x; omega⟩
      refine ⟨hS, ?_⟩
      refine RH.take 10 (fun _ _ _ _ h => h) (by kernel_rfl) hS rfl (by kernel_rfl) (by kernel_rfl) (fun wq hq => Y.nilCheck rfl) (by decide) ?_   -- t26 := nilCheck t16
      refine RH.take 11 (fun _ _ _ _ h => h) (by kernel_rfl) hS rfl (by kernel_rfl) (by kernel_rfl) (fun wq hq => Y.fieldAddr fo_deltawriter0 rfl) (by decide) ?_   -- t27 := fieldAddr 116 t26 0
      refine RH.one 12 (by kernel_rfl) ?_
      refine RS.store rfl (g := g) (pre := []) (old := [.slice A m c]) (post := [.slice B n cb]) (new := [.slice A3 m3 c3]) rfl rfl rfl rfl (by kernel_rfl) (by simpa using hW) rfl (one1 rfl) (fun w4 hc4 hB4_ => ?_)   -- store 33 t27 t25
      have hB4 : Blk w4 g TWr [.slice A3 m3 c3, .slice B n cb] := by simpa using hB4_
      have hS : Chg (fun k => k = g ∨ (Value.slice A m c).ownBlock = some k) w1 w4 ∧ w4.cell? ((⟨g, 0, none⟩ : Addr).add 1) = some (.slice B n cb) := ⟨hS.1.trans hc4 (fun k _ h => .inl h), hB4.mem.cell 1 rfl⟩
      refine ⟨hS, ?_⟩
      refine RH.done (by kernel_rfl) ?_
      have hE := hE.stepO hS.1 (fun k h => by rcases h with h | h; exact .inl (.inl h); rcases hu1 k h with h | h; exact .inl (.inr h); exact .inr h)
      have hne : rest ≠ [] := by intro h; subst h; simp at hrl; omega
      have ho : out ++ ownB rest = out ++ vi (2 * rest.length) ++ rest := by rw [ownB, if_neg hne, List.append_assoc]
      exact ⟨.slice A3 m3 c3, (by repeat (first | exact Fr.le.nil | refine Fr.le.cons rfl ?_)), by rw [ho]; exact ⟨hB4, hO3.chg hc4 (fun k hk x => (hun k hk).1 x), hr.chg hc4 (fun k hk x => h.nv k hk x), hun, h.nv⟩, fun k hk => by rcases hf k hk with h | h; exact hu1 k h; exact .inr (by omega), hE⟩
    -- else
    refine CW.skip ?_
    have hr0 : rest = [] := List.eq_nil_of_length_eq_zero (by omega)
    exact ⟨u0, (by repeat (first | exact Fr.le.nil | refine Fr.le.cons rfl ?_)), by rw [show ownB rest = [] from if_pos hr0, List.append_nil]; exact h, fun k hk => .inl hk, hE⟩
  rintro u w5 hj5
  clear h hE
  obtain ⟨h, hyf, hE⟩ := hj5
  refine CW.region ?_   -- region 3
  refine WL.val (Y.move rfl) (by decide) ?_   -- t28 := move t0
  refine WL.val (Y.move rfl) (by decide) ?_   -- t29 := move t0
  refine WL.val (Y.nilCheck rfl) (by decide) ?_   -- t30 := nilCheck t29
  refine WL.val (Y.fieldAddr fo_deltawriter1 rfl) (by decide) ?_   -- t31 := fieldAddr 116 t30 1
  refine WL.val (Y.load1 Tryd.underlying33 rfl h.blk.mem.deltawriter1 rfl) (by decide) ?_   -- t32 := load 33 t31
  refine WL.val (Y.slice_hi Tryd.underlying33 rfl rfl sz0_uint8 (show (0 : Int) = ((0 : Nat) : Int) from rfl) (Nat.zero_le _)) (by decide) ?_   -- t33 := slice 33 t32 none c(0:i64) none
  refine WL.val (Y.nilCheck rfl) (by decide) ?_   -- t34 := nilCheck t28
  refine WL.val (Y.fieldAddr fo_deltawriter1 rfl) (by decide) ?_   -- t35 := fieldAddr 116 t34 1
  refine WL.store (g := g) (pre := [u]) (old := [.slice B n cb]) (post := []) (new := [.slice B 0 cb]) rfl rfl rfl rfl (by kernel_rfl) (by simpa using h.blk) (by first | rfl | (simp [digC_length, opC_length]; done) | (simp only [digC_length, opC_length]; omega)) (one1 rfl) (fun w6 hc6 hB6_ => ?_)   -- _ := store 33 t35 t33
  have hz6 := hc6.size; have hE := hE.stepO hc6 (fun k h => (by show (k = g ∨ u0.ownBlock = some k) ∨ _; omega))
  skip
  refine WL.nil ?_
  refine ⟨_, rfl, ?_⟩
  have e0 : (Value.slice B 0 cb).ownBlock = (Value.slice B n cb).ownBlock := by cases B <;> rfl
  exact ⟨rfl, ⟨u, .slice B 0 cb, ⟨by simpa using hB6_, h.o.chg hc6 (fun k hk x => (h.nu k hk).1 x), (h.r.chg hc6 (fun k hk x => h.nv k hk x)).cut0, fun k hk => ⟨(h.nu k hk).1, e0 ▸ (h.nu k hk).2⟩, fun k hk => h.nv k (e0 ▸ hk)⟩, hyf, fun k hk => e0 ▸ hk⟩, hE⟩
set_option maxRecDepth 100000 in
set_option maxHeartbeats 2000000 in
theorem make_any (u v : Value) (base target : List UInt8) (w : World) (hu : By w u base) (hv : By w v target) : Calls Tryd.prog 45 #[u, v] w (Ret fun r w' => ∃ x, r = .tuple #[x, .int .i64 (mkE base target)] ∧ Own w' 5 1 x (bytesC (mkR base target)) ∧ (∀ k, x.ownBlock = some k → w.heap.size ≤ k) ∧ Ext w w') := by
  have hul := hu.ltB
  have hvl := hv.ltB
  have hu0 := hu
  have hv0 := hv
  obtain ⟨A, m, c, rfl⟩ := hu.lens
  obtain ⟨B, n, cb, rfl⟩ := hv.lens
  have hm := hu.len.1
  have hn := hv.len.1
  obtain ⟨iw, hiw, hzw⟩ := info_wr
  refine calls_of_CW 71 [4, 5] [(0, .slice A m c), (1, .slice B n cb)] Tryd.func45 rfl rfl rfl (by simp) args2 ?_
  have hE : Ext w w := Chg.refl
  refine CW.seq fun K1 hK1 => ?_
  refine CW.region ?_   -- region 0
  refine WL.val (Y.assign rfl) (by decide) ?_   -- t4 := assign c(nilslice)
  refine WL.val (Y.assign rfl) (by decide) ?_   -- t5 := assign c(0:i64)
  refine WL.nil ?_
  refine hK1 _ _ ?_; try clear hK1 K1
  refine CW.seq fun K2 hK2 => ?_
  refine CW.seq_test 18 ((4096 : Int) < (m : Int) ∨ (4096 : Int) < (n : Int)) ?_ ?_
  · refine CW.region ?_
    refine WL.val (Y.move rfl) (by decide) ?_   -- t11 := move t0
    refine WL.val (Y.len_slice Tryd.underlying33 rfl) (by decide) ?_   -- t12 := call len(t11) : 33
    refine WL.val (Y.gtr rfl rfl) (by decide) ?_   -- t13 := binOp gtr 3 t12 c(4096:i64) 3
    refine WL.val (Y.move rfl) (by decide) ?_   -- t14 := move t13
    first | refine WL.casesD (d := 14) rfl (fun hg14 => ?_) (fun hg14 => ?_) | refine WL.casesND (d := 14) rfl (fun hg14 => ?_) (fun hg14 => ?_) | refine WL.cases (d := 14) rfl (fun hg14 => ?_) (fun hg14 => ?_)
    · -- t14 = T
      refine WL.goff rfl rfl (by decide) ?_   -- t15 := move t1 [if 3=false]
      refine WL.goff rfl rfl (by decide) ?_   -- t16 := call len(t15) : 33 [if 3=false]
      refine WL.goff rfl rfl (by decide) ?_   -- t17 := binOp gtr 3 t16 c(4096:i64) 3 [if 3=false]
      refine WL.val (Y.pick rfl rfl) (by decide) ?_   -- t18 := pick t14 c(true) t17
      refine WL.nil ⟨⟨_, rfl, ?_⟩, rfl, (by repeat (first | exact Fr.le.refl | refine Fr.le.push rfl ?_))⟩
      first | (simp only [*, Int.natCast_inj, Bool.not_eq_true', decide_eq_false_iff_not, decide_eq_true_eq, not_true_eq_false, not_false_eq_true, true_and, false_and, and_true, and_false, false_or, or_false, true_or, or_true, iff_true, true_iff, iff_false, false_iff]; done) | (simp_all; done) | (refine congrArg Value.bool (Bool.eq_iff_iff.2 ?_); simp_all; done) | (simp_all; omega)
    · -- t14 = F
      refine WL.gval rfl rfl (Y.move rfl) (by decide) ?_   -- t15 := move t1 [if 3=false]
      refine WL.gval rfl rfl (Y.len_slice Tryd.underlying33 rfl) (by decide) ?_   -- t16 := call len(t15) : 33 [if 3=false]
      refine WL.gval rfl rfl (Y.gtr rfl rfl) (by decide) ?_   -- t17 := binOp gtr 3 t16 c(4096:i64) 3 [if 3=false]
      refine WL.val (Y.pick rfl rfl) (by decide) ?_   -- t18 := pick t14 c(true) t17
      refine WL.nil ⟨⟨_, rfl, ?_⟩, rfl, (by repeat (first | exact Fr.le.refl | refine Fr.le.push rfl ?_))⟩
      first | (simp only [*, Int.natCast_inj, Bool.not_eq_true', decide_eq_false_iff_not, decide_eq_true_eq, not_true_eq_false, not_false_eq_true, true_and, false_and, and_true, and_false, false_or, or_false, true_or, or_true, iff_true, true_iff, iff_false, false_iff]; done) | (simp_all; done) | (refine congrArg Value.bool (Bool.eq_iff_iff.2 ?_); simp_all; done) | (simp_all; omega)
  first | refine CW.condD rfl (fun ht3 => ?_) (fun ht3 => ?_) | refine CW.condND rfl (fun ht3 => ?_) (fun ht3 => ?_) | refine CW.condN rfl (fun ht3 => ?_) (fun ht3 => ?_) | refine CW.cond rfl (fun ht3 => ?_) (fun ht3 => ?_)
  · -- then
    refine CW.seq fun K4 hK4 => ?_
    refine CW.region ?_   -- region 2
    refine WL.val (Y.assign rfl) (by decide) ?_   -- t4 := assign c(nilslice)
    refine WL.val (Y.assign rfl) (by decide) ?_   -- t5 := assign c(3:i64)
    refine WL.nil ?_
    refine hK4 _ _ ?_; try clear hK4 K4
    refine CW.ret ⟨_, rfl, ?_⟩
    have hc : 4096 < base.length ∨ 4096 < target.length := by omega
    exact ⟨_, by rw [mkE, if_pos hc], by rw [mkR, if_pos hc]; exact Own.nil, (fun k hk => by cases hk), hE⟩
  -- else
  refine CW.skip ?_
  refine hK2 _ _ ?_; try clear hK2 K2
  refine CW.seq fun K5 hK5 => ?_
  refine CW.region ?_   -- region 3
  refine WL.alloc (hiw) (hzw) rfl (by decide) fun g6 w1 hx1 hg6 hB6 => ?_   -- t6 := alloc 116
  have hlt6 := hB6.lt; have hz1 := hx1.size
  have hM6 := hB6.mem; have hz1 := hx1.size; have hE := hE.thenExt hx1; have hu := hu.ext hx1; have hv := hv.ext hx1
  refine WL.nil ?_
  refine hK5 _ _ ?_; try clear hK5 K5
  refine CW.seq fun K6 hK6 => ?_
  refine CW.region ?_   -- region 4
  refine WL.val (Y.makeFuncM rfl) (by decide) ?_   -- t19 := makeFunc ['Go.Fn.func', '59'] [t6] []
  refine WL.val (Y.assign rfl) (by decide) ?_   -- t7 := assign t19
  refine WL.nil ?_
  refine hK6 _ _ ?_; try clear hK6 K6
  refine CW.seq fun K7 hK7 => ?_
  refine CW.region ?_   -- region 5
  refine WL.val (Y.move rfl) (by decide) ?_   -- t20 := move t7
  refine WL.val (Y.move rfl) (by decide) ?_   -- t21 := move t0
  refine WL.val (Y.len_slice Tryd.underlying33 rfl) (by decide) ?_   -- t22 := call len(t21) : 33
  refine WL.callM rfl Tryd.func59 rfl rfl rfl (wnum_any g6 _ _ [] [] (m : Int) _ ⟨hB6, Own.nil, Own.nil, (fun k hk => by cases hk), (fun k hk => by cases hk)⟩ (by omega) (by simp)) (by simp) ?_; rintro v23 w2 hR2   -- t23 := call t20(t22) : 3
  obtain ⟨rfl, ⟨u1, h6, hu1⟩, hc2⟩ := hR2
  have hz2 := hc2.size
  have hE := hE.step hc2 (fun k h => by rcases h with h | h; omega; cases h)
  have hu := hu0.ext hE
  have hv := hv0.ext hE
  have hB6 := h6.blk
  have hu1 : ∀ k, u1.ownBlock = some k → w.heap.size ≤ k := fun k hk => by rcases hu1 k hk with h | h; cases h; omega
  have hm9 := vi_len9 (n := m) (by omega)
  have hn9 := vi_len9 (n := n) (by omega)
  rw [numB_nat, List.nil_append] at h6
  refine WL.nil ?_
  refine hK7 _ _ ?_; try clear hK7 K7
  refine CW.seq fun K8 hK8 => ?_
  refine CW.region ?_   -- region 6
  refine WL.val (Y.move rfl) (by decide) ?_   -- t24 := move t7
  refine WL.val (Y.move rfl) (by decide) ?_   -- t25 := move t1
  refine WL.val (Y.len_slice Tryd.underlying33 rfl) (by decide) ?_   -- t26 := call len(t25) : 33
  refine WL.callM rfl Tryd.func59 rfl rfl rfl (wnum_any g6 u1 _ _ [] (n : Int) _ h6 (by omega) (by omega)) (by simp) ?_; rintro v27 w3 hR3   -- t27 := call t24(t26) : 3
  obtain ⟨rfl, ⟨u2, h6, hu2⟩, hc3⟩ := hR3
  have hz3 := hc3.size
  have hE := hE.step hc3 (fun k h => by rcases h with h | h; omega; exact hu1 k h)
  have hu := hu0.ext hE
  have hv := hv0.ext hE
  have hB6 := h6.blk
  have hu2l := h6.o.lt
  have hu2 : ∀ k, u2.ownBlock = some k → w.heap.size ≤ k := fun k hk => by rcases hu2 k hk with h | h; exact hu1 k h; omega
  rw [numB_nat, ← hm, ← hn] at h6
  refine WL.nil ?_
  refine hK8 _ _ ?_; try clear hK8 K8
  refine CW.seq fun K9 hK9 => ?_
  refine CW.region ?_   -- region 7
  refine WL.val (Y.move rfl) (by decide) ?_   -- t28 := move t0
  refine WL.val (Y.move rfl) (by decide) ?_   -- t29 := move t1
  refine WL.call Tryd.func60 rfl rfl rfl (matches_any _ _ base target _ hu hv (by omega) (by omega)) (by simp) ?_; rintro v30 w4 hR4   -- t30 := call F60(t28, t29) : 33,33
  obtain ⟨gb, rfl, hgb, hBb, hx4⟩ := hR4
  have hz4 := hx4.size
  have hE := hE.thenExt hx4
  have hu := hu.ext hx4
  have hv := hv.ext hx4
  have h6 := h6.ext hx4
  have hB6 := h6.blk
  refine WL.val (Y.assign rfl) (by decide) ?_   -- t8 := assign t30
  refine WL.nil ?_
  refine hK9 _ _ ?_; try clear hK9 K9
  refine CW.seq fun K10 hK10 => ?_
  refine CW.seq fun K11 hK11 => ?_
  refine CW.region ?_   -- region 8
  refine WL.val (Y.assign rfl) (by decide) ?_   -- t9 := assign c(0:i64)
  refine WL.nil ?_
  refine hK11 _ _ ?_; try clear hK11 K11
  refine CW.block ?_   -- block 0
  refine CW.loop (X := Nat × Nat × Value × Value × List UInt8 × List UInt8) (fun x => [(0, .slice A m c), (1, .slice B n cb), (6, .pointer (some ⟨g6, 0, none⟩)), (7, .func (.func 59) #[.pointer (some ⟨g6, 0, none⟩)] #[]), (8, .slice (some ⟨gb, 0, none⟩) target.length target.length), (9, .int .i64 (x.1 : Int))]) (fun x w0 => x.1 ≤ n ∧ n ≤ x.1 + x.2.1 ∧ x.2.2.2.2.1 ++ mkS base target x.2.1 x.1 x.2.2.2.2.2 = mkB base target ∧ WAt w0 g6 x.2.2.1 x.2.2.2.1 x.2.2.2.2.1 x.2.2.2.2.2 ∧ (∀ k, x.2.2.1.ownBlock = some k → w.heap.size ≤ k ∧ k ≠ gb) ∧ (∀ k, x.2.2.2.1.ownBlock = some k → w.heap.size ≤ k ∧ k ≠ gb) ∧ x.2.2.2.2.2.length ≤ x.1 ∧ Blk w0 gb TMt (matC ((List.range target.length).map (bestOf base target))) ∧ Ext w w0) (fun x => x.2.1) (0, n, u2, .slice none 0 0, vi base.length ++ vi target.length, []) (by repeat (first | exact Fr.le.nil | refine Fr.le.cons rfl ?_)) ⟨Nat.zero_le _, by show n ≤ 0 + n; omega, by show vi base.length ++ vi target.length ++ mkS base target n 0 [] = _; rw [mkB, hn], h6, (fun k hk => ⟨hu2 k hk, by have := hu2l k hk; omega⟩), (fun k hk => by cases hk), Nat.le_refl _, hBb, hE⟩ ?_
  intro x w5 hl5
  obtain ⟨i, f, uu, vv, out, rest⟩ := x
  dsimp only at hl5 ⊢
  obtain ⟨hi, hif, hmk, h6, huf, hvf, hrl, hBb, hE⟩ := hl5
  have hu := hu0.ext hE
  have hv := hv0.ext hE
  have hB6 := h6.blk
  have hg6l := h6.blk.lt
  have hgbl := hBb.lt
  have huul := h6.o.lt
  have hvvl := h6.r.lt
  have hzE := hE.size
  have hol : out.length ≤ 120000 := by
    have := mkB_len (base := base) (target := target) (by omega) (by omega)
    rw [← hmk, List.length_append] at this
    omega
  refine CW.seq fun K12 hK12 => ?_
  refine CW.seq fun K13 hK13 => ?_
  refine CW.region ?_   -- region 9
  refine WL.val (Y.move rfl) (by decide) ?_   -- t31 := move t9
  refine WL.val (Y.move rfl) (by decide) ?_   -- t32 := move t1
  refine WL.val (Y.len_slice Tryd.underlying33 rfl) (by decide) ?_   -- t33 := call len(t32) : 33
  refine WL.val (Y.lss rfl rfl) (by decide) ?_   -- t34 := binOp lss 3 t31 t33 3
  refine WL.nil ?_
  refine hK13 _ _ ?_; try clear hK13 K13
  first | refine CW.condD rfl (fun ht14 => ?_) (fun ht14 => ?_) | refine CW.condND rfl (fun ht14 => ?_) (fun ht14 => ?_) | refine CW.condN rfl (fun ht14 => ?_) (fun ht14 => ?_) | refine CW.cond rfl (fun ht14 => ?_) (fun ht14 => ?_)
  · -- then
    refine CW.skip ?_
    refine hK12 _ _ ?_; try clear hK12 K12
    refine CW.block ?_   -- block 1
    refine CW.seq fun K15 hK15 => ?_
    refine CW.region ?_   -- region 10
    refine WL.val (Y.move rfl) (by decide) ?_   -- t35 := move t8
    refine WL.val (Y.move rfl) (by decide) ?_   -- t36 := move t9
    refine WL.val (Y.indexAddrN Tryd.underlying118 rfl rfl sz0_deltamatch (by omega)) (by decide) ?_   -- t37 := indexAddr 118 t35 t36
    refine WL.val (Y.load Tryd.underlying121 rfl (hBb.kmem encM_length (i := i) (x := bestOf base target i) (by rw [List.getElem?_map, List.getElem?_range (by omega)]; rfl)) (sz_deltamatch _) rfl) (by decide) ?_   -- t38 := load 121 t37
    refine as_deltamatch rfl (by simp) (by decide) fun g10 w6 hx6 hg10 hB10 => ?_   -- alloc 121; store 121 t10 t38
    have hlt10 := hB10.lt; have hz6 := hx6.size
    have hM10 := hB10.mem; have hz6 := hx6.size; have hE := hE.thenExt hx6; have hu := hu.ext hx6; have hv := hv.ext hx6; have hB6 := hB6.ext hx6
    refine WL.nil ?_
    refine hK15 _ _ ?_; try clear hK15 K15
    refine CW.seq fun K16 hK16 => ?_
    refine CW.seq fun K17 hK17 => ?_
    refine CW.region ?_   -- region 11
    refine WL.val (Y.fieldAddr fo_deltamatch1 rfl) (by decide) ?_   -- t39 := fieldAddr 121 t10 1
    refine WL.val (Y.load1 Tryd.underlying3 rfl hB10.mem.deltamatch1 rfl) (by decide) ?_   -- t40 := load 3 t39
    refine WL.val (Y.lss rfl rfl) (by decide) ?_   -- t41 := binOp lss 3 t40 c(8:i64) 3
    refine WL.nil ?_
    refine hK17 _ _ ?_; try clear hK17 K17
    first | refine CW.condD rfl (fun ht18 => ?_) (fun ht18 => ?_) | refine CW.condND rfl (fun ht18 => ?_) (fun ht18 => ?_) | refine CW.condN rfl (fun ht18 => ?_) (fun ht18 => ?_) | refine CW.cond rfl (fun ht18 => ?_) (fun ht18 => ?_)
    · -- then
      refine CW.seq fun K19 hK19 => ?_
      refine CW.held (fun wq => Chg (fun k => k = g6 ∨ vv.ownBlock = some k) w6 wq) (by kernel_rfl) 10 rfl fun w7 hx7 => ?_
      have hS : Chg (fun k => k = g6 ∨ vv.ownBlock = some k) w6 w7 := hx7.chg
      have h6 := (h6.ext hx6).ext hx7
      have hB6 := h6.blk
      have hBb := (hBb.ext hx6).ext hx7
      have hz7 := hx7.size
      obtain ⟨f, rfl⟩ : ∃ f_, f = f_ + 1 := ⟨f - 1, by omega⟩
      obtain ⟨b1, rfl, hmb⟩ := hv.mem.1 (by omega)
      obtain ⟨y1, hyk⟩ : ∃ y, target[i]? = some y := ⟨_, List.getElem?_eq_getElem (by omega)⟩
      have hyT : target.getD i 0 = y1 := by rw [List.getD_eq_getElem?_getD, hyk]; rfl
      have hne : target ≠ [] := by intro h; rw [h] at hyk; simp at hyk
      refine RH.take 0 (fun _ _ _ _ h => h) (by kernel_rfl) hS rfl (by kernel_rfl) (by kernel_rfl) (fun wq hq => Y.fieldAddr fo_deltawriter1 rfl) (by decide) ?_   -- t42 := fieldAddr 116 t6 1
      refine RH.take 2 (fun _ _ _ _ h => h) (by kernel_rfl) hS rfl (by kernel_rfl) (by kernel_rfl) (fun wq hq => Y.move rfl) (by decide) ?_   -- t44 := move t1
      refine RH.take 3 (fun _ _ _ _ h => h) (by kernel_rfl) hS rfl (by kernel_rfl) (by kernel_rfl) (fun wq hq => Y.move rfl) (by decide) ?_   -- t45 := move t9
      refine RH.take 4 (fun _ _ _ _ h => h) (by kernel_rfl) hS rfl (by kernel_rfl) (by kernel_rfl) (fun wq hq => Y.indexAddrN Tryd.underlying33 rfl rfl sz0_uint8 (by omega)) (by decide) ?_   -- t46 := indexAddr 33 t44 t45
      refine RH.take 5 (fun _ _ _ _ h => h) (by kernel_rfl) hS rfl (by kernel_rfl) (by kernel_rfl) (fun wq hq => Y.load1 Tryd.underlying5 rfl ((hmb.chg hq (fun h => by have := hvl hne _ rfl; rcases h with h | h; omega; have := (hvf _ h).1; omega)) (i * 1) _ (by rw [Nat.mul_one]; exact bytesC_get hyk)) rfl) (by decide) ?_   -- t47 := load 5 t46
      refine RH.two 1 6 (by kernel_rfl) ?_ ?_
      · skip
        refine RS.val rfl (Y.load1 Tryd.underlying33 rfl hB6.mem.deltawriter1 rfl) (by decide) ⟨hS, ?_⟩   -- t43 := load 33 t42
        refine RH.one 6 (by kernel_rfl) ?_
        refine RS.st rfl (St.buildSlice rfl (bs1 _)) (by decide) fun v48 w8 hR8 => ?_   -- buildSlice 33 1 [(0,t47)]
        obtain ⟨g48, rfl, hg48, hB48, hx8⟩ := hR8
        have hz8 := hx8.size
        have hS := hS.thenExt hx8
        have h6 := h6.ext hx8
        have hBb := hBb.ext hx8
        have hB6 := h6.blk
        refine ⟨hS, ?_⟩
        refine RH.one 7 (by kernel_rfl) ?_
        refine RS.st rfl (St.app (xs := rest) (ys := [y1]) Tryd.underlying33 Tryd.underlying33 ai_u8 rfl rfl h6.r (Src.one hB48 rfl) (by omega)) (by decide) fun v49 w9 hR9 => ?_   -- call append(t43, t48) : 33,33
        obtain ⟨hO9, hc9, hf9⟩ := hR9
        have hz9 := hc9.size
        have hS := hS.trans hc9 (fun k _ h => .inr h)
        obtain ⟨A2, m2, c2, rfl⟩ := hO9.lens
        have hW := h6.blk.chg hc9 (fun x => h6.nv _ x rfl)
        have hWo := h6.o.chg hc9 (fun k hk x => (h6.nu k hk).2 x)
        have hBb := hBb.chg hc9 (fun x => (hvf _ x).2 rfl)
        have hul6 := h6.o.lt
        have hgl6 := h6.blk.lt
        have hgbl := hBb.lt
        have hv2 : ∀ k, (Value.slice A2 m2 c2).ownBlock = some k → (vv.ownBlock = some k ∨ w7.heap.size ≤ k) := by
          rcases hf9 with h_ | h_
          · intro k hk; rw [h_] at hk; exact .inl hk
          · intro k hk; have := h_ k hk; exact .inr (by omega)
        refine ⟨hS, ?_⟩
        refine RH.take 8 (fun _ _ _ _ h => h) (by kernel_rfl) hS rfl (by kernel_rfl) (by kernel_rfl) (fun wq hq => Y.fieldAddr fo_deltawriter1 rfl) (by decide) ?_   -- t50 := fieldAddr 116 t6 1
        refine RH.one 9 (by kernel_rfl) ?_
        refine RS.store rfl (g := g6) (pre := [uu]) (old := [vv]) (post := []) (new := [.slice A2 m2 c2]) rfl rfl rfl rfl (by kernel_rfl) (by simpa using hW) rfl (one1 rfl) (fun w10 hc10 hB10_ => ?_)   -- store 33 t50 t49
        have hS := hS.trans hc10 (fun k _ h => .inl h)
        refine ⟨hS, ?_⟩
        refine RH.done (by kernel_rfl) ?_
        have hE := hE.step hS (fun k h => by rcases h with h | h; omega; exact (hvf k h).1)
        have hzS := hS.size
        refine hK19 _ _ ?_; try clear hK19 K19
        refine CW.seq fun K20 hK20 => ?_
        refine CW.region ?_   -- region 13
        refine WL.val (Y.move rfl) (by decide) ?_   -- t51 := move t9
        refine WL.val (Y.add rfl rfl ⟨by omega, by omega⟩) (by decide) ?_   -- t52 := binOp add 3 t51 c(1:i64) 3
        refine WL.val (Y.assign rfl) (by decide) ?_   -- t9 := assign t52
        refine WL.nil ?_
        refine hK20 _ _ ?_; try clear hK20 K20
        refine CW.exit ?_   -- exit 1
        have hnf : ∀ k, (Value.slice A2 m2 c2).ownBlock = some k → w.heap.size ≤ k ∧ k ≠ gb ∧ k ≠ g6 ∧ uu.ownBlock ≠ some k := by
          intro k hk
          rcases hv2 k hk with h_ | h_
          · exact ⟨(hvf k h_).1, (hvf k h_).2, h6.nv k h_, fun x => (h6.nu k x).2 h_⟩
          · exact ⟨by omega, by omega, by omega, fun x => by have := huul k x; omega⟩
        refine ⟨(i + 1, f, uu, .slice A2 m2 c2, out, rest ++ [target.getD i 0]), by show f < f + 1; omega, (by repeat (first | exact Fr.le.nil | refine Fr.le.cons rfl ?_)), by show i + 1 ≤ n; omega, by show n ≤ i + 1 + f; omega, ?_, ⟨by simpa using hB10_, hWo.chg hc10 (fun k hk x => (h6.nu k hk).1 x), ?_, fun k hk => ⟨(h6.nu k hk).1, fun x => (hnf k x).2.2.2 hk⟩, fun k hk => (hnf k hk).2.2.1⟩, huf, fun k hk => ⟨(hnf k hk).1, (hnf k hk).2.1⟩, by show (rest ++ [_]).length ≤ i + 1; rw [List.length_append, List.length_singleton]; omega, hBb.chg hc10 (fun h => by have h : gb = g6 := h; omega), hE⟩
        · show out ++ mkS base target f (i + 1) (rest ++ [target.getD i 0]) = mkB base target
          rw [← hmk, mkS, if_neg (by omega), if_pos (by omega)]
        · show Own _ _ _ _ (bytesC (rest ++ [target.getD i 0]))
          rw [hyT]
          exact hO9.chg hc10 (fun k hk x => (hnf k hk).2.2.1 x)
      · skip
        refine RS.st rfl (St.buildSlice rfl (bs1 _)) (by decide) fun v48 w11 hR11 => ?_   -- buildSlice 33 1 [(0,t47)]
        obtain ⟨g48, rfl, hg48, hB48, hx11⟩ := hR11
        have hz11 := hx11.size
        have hS := hS.thenExt hx11
        have h6 := h6.ext hx11
        have hBb := hBb.ext hx11
        have hB6 := h6.blk
        refine ⟨hS, ?_⟩
        refine RH.one 1 (by kernel_rfl) ?_
        refine RS.val rfl (Y.load1 Tryd.underlying33 rfl hB6.mem.deltawriter1 rfl) (by decide) ⟨hS, ?_⟩   -- t43 := load 33 t42
        refine RH.one 7 (by kernel_rfl) ?_
        refine RS.st rfl (St.app (xs := rest) (ys := [y1]) Tryd.underlying33 Tryd.underlying33 ai_u8 rfl rfl h6.r (Src.one hB48 rfl) (by omega)) (by decide) fun v49 w12 hR12 => ?_   -- call append(t43, t48) : 33,33
        obtain ⟨hO12, hc12, hf12⟩ := hR12
        have hz12 := hc12.size
        have hS := hS.trans hc12 (fun k _ h => .inr h)
        obtain ⟨A2, m2, c2, rfl⟩ := hO12.lens
        have hW := h6.blk.chg hc12 (fun x => h6.nv _ x rfl)
        have hWo := h6.o.chg hc12 (fun k hk x => (h6.nu k hk).2 x)
        have hBb := hBb.chg hc12 (fun x => (hvf _ x).2 rfl)
        have hul6 := h6.o.lt
        have hgl6 := h6.blk.lt
        have hgbl := hBb.lt
        have hv2 : ∀ k, (Value.slice A2 m2 c2).ownBlock = some k → (vv.ownBlock = some k ∨ w7.heap.size ≤ k) := by
          rcases hf12 with h_ | h_
          · intro k hk; rw [h_] at hk; exact .inl hk
          · intro k hk; have := h_ k hk; exact .inr (by omega)
        refine ⟨hS, ?_⟩
        refine RH.take 8 (fun _ _ _ _ h => h) (by kernel_rfl) hS rfl (by kernel_rfl) (by kernel_rfl) (fun wq hq => Y.fieldAddr fo_deltawriter1 rfl) (by decide) ?_   -- t50 := fieldAddr 116 t6 1
        refine RH.one 9 (by kernel_rfl) ?_
        refine RS.store rfl (g := g6) (pre := [uu]) (old := [vv]) (post := []) (new := [.slice A2 m2 c2]) rfl rfl rfl rfl (by kernel_rfl) (by simpa using hW) rfl (one1 rfl) (fun w13 hc13 hB13_ => ?_)   -- store 33 t50 t49
        have hS := hS.trans hc13 (fun k _ h => .inl h)
        refine ⟨hS, ?_⟩
        refine RH.done (by kernel_rfl) ?_
        have hE := hE.step hS (fun k h => by rcases h with h | h; omega; exact (hvf k h).1)
        have hzS := hS.size
        refine hK19 _ _ ?_; try clear hK19 K19
        refine CW.seq fun K21 hK21 => ?_
        refine CW.region ?_   -- region 13
        refine WL.val (Y.move rfl) (by decide) ?_   -- t51 := move t9
        refine WL.val (Y.add rfl rfl ⟨by omega, by omega⟩) (by decide) ?_   -- t52 := binOp add 3 t51 c(1:i64) 3
        refine WL.val (Y.assign rfl) (by decide) ?_   -- t9 := assign t52
        refine WL.nil ?_
        refine hK21 _ _ ?_; try clear hK21 K21
        refine CW.exit ?_   -- exit 1
        have hnf : ∀ k, (Value.slice A2 m2 c2).ownBlock = some k → w.heap.size ≤ k ∧ k ≠ gb ∧ k ≠ g6 ∧ uu.ownBlock ≠ some k := by
          intro k hk
          rcases hv2 k hk with h_ | h_
          · exact ⟨(hvf k h_).1, (hvf k h_).2, h6.nv k h_, fun x => (h6.nu k x).2 h_⟩
          · exact ⟨by omega, by omega, by omega, fun x => by have := huul k x; omega⟩
        refine ⟨(i + 1, f, uu, .slice A2 m2 c2, out, rest ++ [target.getD i 0]), by show f < f + 1; omega, (by repeat (first | exact Fr.le.nil | refine Fr.le.cons rfl ?_)), by show i + 1 ≤ n; omega, by show n ≤ i + 1 + f; omega, ?_, ⟨by simpa using hB13_, hWo.chg hc13 (fun k hk x => (h6.nu k hk).1 x), ?_, fun k hk => ⟨(h6.nu k hk).1, fun x => (hnf k x).2.2.2 hk⟩, fun k hk => (hnf k hk).2.2.1⟩, huf, fun k hk => ⟨(hnf k hk).1, (hnf k hk).2.1⟩, by show (rest ++ [_]).length ≤ i + 1; rw [List.length_append, List.length_singleton]; omega, hBb.chg hc13 (fun h => by have h : gb = g6 := h; omega), hE⟩
        · show out ++ mkS base target f (i + 1) (rest ++ [target.getD i 0]) = mkB base target
          rw [← hmk, mkS, if_neg (by omega), if_pos (by omega)]
        · show Own _ _ _ _ (bytesC (rest ++ [target.getD i 0]))
          rw [hyT]
          exact hO12.chg hc13 (fun k hk x => (hnf k hk).2.2.1 x)
    -- else
    refine CW.skip ?_
    refine hK16 _ _ ?_; try clear hK16 K16
    refine CW.seq fun K22 hK22 => ?_
    refine CW.region ?_   -- region 14
    refine WL.call Tryd.func61 rfl rfl rfl (wflush_any g6 uu vv out rest _ (h6.ext hx6) (by omega)) (by simp) ?_; rintro v53 w14 hR14   -- t53 := call F61(t6) : 116
    obtain ⟨rfl, ⟨u3, v3, h6, hu3, hv3⟩, hc14⟩ := hR14
    have hz14 := hc14.size
    have hE := hE.step hc14 (fun k h => by rcases h with h | h; omega; exact (huf k h).1)
    have hBb := (hBb.ext hx6).chg hc14 (fun h => by rcases h with h | h; omega; exact (huf _ h).2 rfl)
    have hB10 := hB10.chg hc14 (fun h => by rcases h with h | h; omega; have := huul _ h; omega)
    have hu := hu0.ext hE
    have hv := hv0.ext hE
    have hB6 := h6.blk
    have hol2 := ownB_len rest (by omega)
    obtain ⟨hb1, hb2, hb3⟩ := bestOf_same (base := base) (target := target) (i := i) (by omega)
    have hu3 : ∀ k, u3.ownBlock = some k → w.heap.size ≤ k ∧ k ≠ gb ∧ k ≠ g10 := fun k hk => by
      rcases hu3 k hk with h | h
      · exact ⟨(huf k h).1, (huf k h).2, by have := huul k h; omega⟩
      · exact ⟨by omega, by omega, by omega⟩
    refine WL.nil ?_
    refine hK22 _ _ ?_; try clear hK22 K22
    refine CW.seq fun K23 hK23 => ?_
    refine CW.region ?_   -- region 15
    refine WL.val (Y.move rfl) (by decide) ?_   -- t54 := move t7
    refine WL.val (Y.fieldAddr fo_deltamatch1 rfl) (by decide) ?_   -- t55 := fieldAddr 121 t10 1
    refine WL.val (Y.load1 Tryd.underlying3 rfl hB10.mem.deltamatch1 rfl) (by decide) ?_   -- t56 := load 3 t55
    refine WL.val (Y.mul rfl rfl ⟨by omega, by omega⟩) (by decide) ?_   -- t57 := binOp mul 3 c(2:i64) t56 3
    refine WL.val (Y.add rfl rfl ⟨by omega, by omega⟩) (by decide) ?_   -- t58 := binOp add 3 t57 c(1:i64) 3
    refine WL.callM rfl Tryd.func59 rfl rfl rfl (wnum_any g6 u3 v3 _ _ (2 * ((bestOf base target i).2 : Int) + 1) _ h6 (by omega) (by rw [List.length_append]; omega)) (by simp) ?_; rintro v59 w15 hR15   -- t59 := call t54(t58) : 3
    obtain ⟨rfl, ⟨u4, h6, hu4⟩, hc15⟩ := hR15
    have hz15 := hc15.size
    have hE := hE.step hc15 (fun k h => by rcases h with h | h; omega; exact (hu3 k h).1)
    have hBb := hBb.chg hc15 (fun h => by rcases h with h | h; omega; exact (hu3 _ h).2.1 rfl)
    have hB10 := hB10.chg hc15 (fun h => by rcases h with h | h; omega; exact (hu3 _ h).2.2 rfl)
    have hu := hu0.ext hE
    have hv := hv0.ext hE
    have hB6 := h6.blk
    rw [show 2 * ((bestOf base target i).2 : Int) + 1 = ((2 * (bestOf base target i).2 + 1 : Nat) : Int) from by omega, numB_nat] at h6
    have hv9 := vi_len9 (n := 2 * (bestOf base target i).2 + 1) (by omega)
    have hg10l := hB10.lt
    have hu4 : ∀ k, u4.ownBlock = some k → w.heap.size ≤ k ∧ k ≠ gb ∧ k ≠ g10 := fun k hk => by
      rcases hu4 k hk with h | h
      · exact hu3 k h
      · exact ⟨by omega, by omega, by omega⟩
    refine WL.nil ?_
    refine hK23 _ _ ?_; try clear hK23 K23
    refine CW.seq fun K24 hK24 => ?_
    refine CW.region ?_   -- region 16
    refine WL.val (Y.move rfl) (by decide) ?_   -- t60 := move t7
    refine WL.val (Y.fieldAddr fo_deltamatch0 rfl) (by decide) ?_   -- t61 := fieldAddr 121 t10 0
    refine WL.val (Y.load1 Tryd.underlying3 rfl hB10.mem.deltamatch0 rfl) (by decide) ?_   -- t62 := load 3 t61
    refine WL.callM rfl Tryd.func59 rfl rfl rfl (wnum_any g6 u4 v3 _ _ ((bestOf base target i).1 : Int) _ h6 (by omega) (by simp only [List.length_append]; omega)) (by simp) ?_; rintro v63 w16 hR16   -- t63 := call t60(t62) : 3
    obtain ⟨rfl, ⟨u5, h6, hu5⟩, hc16⟩ := hR16
    have hz16 := hc16.size
    have hE := hE.step hc16 (fun k h => by rcases h with h | h; omega; exact (hu4 k h).1)
    have hBb := hBb.chg hc16 (fun h => by rcases h with h | h; omega; exact (hu4 _ h).2.1 rfl)
    have hB10 := hB10.chg hc16 (fun h => by rcases h with h | h; omega; exact (hu4 _ h).2.2 rfl)
    have hu := hu0.ext hE
    have hv := hv0.ext hE
    have hB6 := h6.blk
    rw [numB_nat] at h6
    refine WL.nil ?_
    refine hK24 _ _ ?_; try clear hK24 K24
    refine CW.region ?_   -- region 17
    refine WL.val (Y.move rfl) (by decide) ?_   -- t64 := move t9
    refine WL.val (Y.fieldAddr fo_deltamatch1 rfl) (by decide) ?_   -- t65 := fieldAddr 121 t10 1
    refine WL.val (Y.load1 Tryd.underlying3 rfl hB10.mem.deltamatch1 rfl) (by decide) ?_   -- t66 := load 3 t65
    refine WL.val (Y.add rfl rfl ⟨by omega, by omega⟩) (by decide) ?_   -- t67 := binOp add 3 t64 t66 3
    refine WL.val (Y.assign rfl) (by decide) ?_   -- t9 := assign t67
    refine WL.nil ?_
    obtain ⟨f, rfl⟩ : ∃ f_, f = f_ + 1 := ⟨f - 1, by omega⟩
    refine ⟨(i + (bestOf base target i).2, f, u5, v3, _, []), by show f < f + 1; omega, (by repeat (first | exact Fr.le.nil | refine Fr.le.cons rfl ?_)), by show i + _ ≤ n; omega, by show n ≤ i + _ + f; omega, ?_, h6, fun k hk => ?_, fun k hk => by have := hv3 k hk; exact hvf k this, Nat.zero_le _, hBb, hE⟩
    · rw [← hmk, mkS, if_neg (by omega), if_neg (by omega)]
      simp only [List.append_assoc]
    · rcases hu5 k hk with h | h
      · exact ⟨(hu4 k h).1, (hu4 k h).2.1⟩
      · exact ⟨by omega, by omega⟩
  -- else
  refine CW.exit ?_   -- exit 0
  refine hK10 _ _ ?_; try clear hK10 K10
  refine CW.seq fun K25 hK25 => ?_
  refine CW.region ?_   -- region 18
  refine WL.call Tryd.func61 rfl rfl rfl (wflush_any g6 uu vv out rest _ h6 (by omega)) (by simp) ?_; rintro v68 w17 hR17   -- t68 := call F61(t6) : 116
  obtain ⟨rfl, ⟨u3, v3, h6, hu3, hv3⟩, hc17⟩ := hR17
  have hz17 := hc17.size
  have hE := hE.step hc17 (fun k h => by rcases h with h | h; omega; exact (huf k h).1)
  have hB6 := h6.blk
  have hu := hu0.ext hE
  have hv := hv0.ext hE
  refine WL.nil ?_
  refine hK25 _ _ ?_; try clear hK25 K25
  refine CW.seq fun K26 hK26 => ?_
  refine CW.region ?_   -- region 19
  refine WL.val (Y.fieldAddr fo_deltawriter0 rfl) (by decide) ?_   -- t69 := fieldAddr 116 t6 0
  refine WL.val (Y.load1 Tryd.underlying33 rfl hB6.mem.deltawriter0 rfl) (by decide) ?_   -- t70 := load 33 t69
  refine WL.val (Y.assign rfl) (by decide) ?_   -- t4 := assign t70
  refine WL.val (Y.assign rfl) (by decide) ?_   -- t5 := assign c(0:i64)
  refine WL.nil ?_
  refine hK26 _ _ ?_; try clear hK26 K26
  refine CW.ret ⟨_, rfl, ?_⟩
  have hc : ¬ (4096 < base.length ∨ 4096 < target.length) := by omega
  exact ⟨u3, by rw [mkE, if_neg hc], by rw [mkR, if_neg hc, ← hmk, mkS_end (by omega)]; exact h6.o, fun k hk => by rcases hu3 k hk with h | h; exact (huf k h).1; omega, hE⟩
end Go.Proofs.YtoncdfpohdchgaaDoor

/- A delta is read: delta.reader's methods and Apply, walked. No condition. -/
namespace Go.Fw
section
variable {w : World} {a : Addr} {u v x : Value} (h : Mem w a [u, v, x])
include h
theorem Mem.deltareader0 : w.cell? (a.add 0) = some u := h.cell 0 rfl
theorem Mem.deltareader1 : w.cell? (a.add 1) = some v := h.cell 1 rfl
theorem Mem.deltareader2 : w.cell? (a.add 2) = some x := h.cell 2 rfl
end
theorem Src.cut {P : Program} {w : World} {a : Addr} {m c i j : Nat} {bs : List UInt8} (h : By w (.slice (some a) m c) bs) (h1 : i < j) (h2 : j ≤ m) : Src P w 1 (.slice (some (if c = i then a else a.add (i * 1))) (j - i) (c - i)) (j - i) (bytesC ((bs.drop i).take (j - i))) := by
  obtain ⟨hl, hc, _⟩ := h.len
  obtain ⟨a', ha, hm⟩ := h.mem.1 (by omega)
  cases ha
  exact Src.slice (by rw [bytesC_length, List.length_take, List.length_drop]; omega) fun _ => ⟨_, rfl, By.slMem hm hl hc h1 h2⟩
end Go.Fw
namespace Go.Proofs.YtoncdfpohdchgaaDoor
open Go.RowKit Go.Fw Go.Pl
abbrev TDr : TypeId := 123
theorem fo_deltareader0 : FieldOff Tryd.prog TDr 0 0 := ⟨_, _, 1, Tryd.underlying123, rfl, by kernel_rfl, by decide, rfl⟩
theorem fo_deltareader1 : FieldOff Tryd.prog TDr 1 1 := ⟨_, _, 1, Tryd.underlying123, rfl, by kernel_rfl, by decide, rfl⟩
theorem fo_deltareader2 : FieldOff Tryd.prog TDr 2 2 := ⟨_, _, 1, Tryd.underlying123, rfl, by kernel_rfl, by decide, rfl⟩
theorem build_dreader (A : Option Addr) (m c : Nat) (w : World) : (Instr.build TDr [(0, Value.slice A m c)].toArray).run Tryd.prog w = .ok (.agg [Value.slice A m c, .int .i64 0, .int .i64 0].toArray) w := run_build w _ _ _ (by kernel_rfl)
theorem info_dr : ∃ i : TypeInfo, Tryd.prog.info? TDr = some i ∧ i.zero = some (.agg #[.slice none 0 0, .int .i64 0, .int .i64 0]) ∧ i.size = 3 := by
  have h : (Tryd.prog.info? TDr).map (fun i => (i.zero, i.size)) = some (some (.agg #[.slice none 0 0, .int .i64 0, .int .i64 0]), 3) := by kernel_rfl
  obtain ⟨i, hi, h⟩ := Option.map_eq_some_iff.1 h
  obtain ⟨h1, h2⟩ := Prod.mk.inj h
  exact ⟨i, hi, h1, h2⟩
theorem as_deltareader {n : NN} {Φ : Exit → Fr → World → Prop} {fr : Fr} {w : World} {ops : Array Oper} {rest : List Oper} {d : Nat} {x : Operand} {ty ty' : TypeId} {pos pos' : String} {aft aft' : Array Edge} {A : Option Addr} {m c : Nat} {p q : Int}
    (hx : ev fr x = some (.agg [Value.slice A m c, .int .i64 p, .int .i64 q].toArray)) (hxd : x ≠ .tmp d) (hd : d < n.1)
    (h : ∀ g w', Ext w w' → w.heap.size ≤ g → Blk w' g TDr [Value.slice A m c, .int .i64 p, .int .i64 q] → WL Tryd.prog ops n Φ rest ((d, .pointer (some ⟨g, 0, none⟩)) :: fr) w') :
    WL Tryd.prog ops n Φ (⟨some d, .alloc TDr, ty, pos, aft, none⟩ :: ⟨none, .store TDr (.tmp d) x, ty', pos', aft', none⟩ :: rest) fr w := by
  obtain ⟨i, hi, hz, hs⟩ := info_dr
  exact WL.allocStore (zs := [.slice none 0 0, .int .i64 0, .int .i64 0]) (cs := [Value.slice A m c, .int .i64 p, .int .i64 q]) hi hz rfl (by rw [hs]; rfl) rfl hx hxd rfl (by intro u hu; simp at hu; rcases hu with rfl | rfl | rfl <;> rfl) hd h
theorem ite_iff {α : Type} {p q : Prop} [Decidable p] [Decidable q] {a b : α} (h : p ↔ q) : (if p then a else b) = (if q then a else b) := by
  by_cases hp : p
  · rw [if_pos hp, if_pos (h.1 hp)]
  · rw [if_neg hp, if_neg (fun x => hp (h.2 x))]
theorem gnum_numR {d : List UInt8} {at_ : Nat} : ∃ n a : Nat, ∃ e1 : Int, NumR d at_ 0 n a e1 ∧ gN d at_ = (n : Int) ∧ gX d at_ = (a : Int) ∧ gE d at_ = e1 := by
  by_cases h : gE d at_ = 0
  · obtain ⟨n, nx, hg, h1, h2⟩ := gE_zero h
    exact ⟨n, nx, 0, .inl ⟨rfl, rfl, hg⟩, h1, h2, h⟩
  · obtain ⟨hg, h1, h2⟩ := gE_ne h
    exact ⟨0, 0, gE d at_, .inr (.inl ⟨rfl, h, hg, rfl, rfl⟩), h1, h2, rfl⟩

theorem drefuse_any (g : Nat) (dv : Value) (at_ e : Int) (b : Bool) (x : Int) (w : World) (hB : Blk w g TDr [dv, .int .i64 at_, .int .i64 e]) : Calls Tryd.prog 62 #[.pointer (some ⟨g, 0, none⟩), .bool b, .int .i64 x] w (Ret fun r w' => r = .tuple #[] ∧ Blk w' g TDr [dv, .int .i64 at_, .int .i64 (refE e b x)] ∧ Chg (· = g) w w') := by
  refine calls_of_CW 18 [] [(0, .pointer (some ⟨g, 0, none⟩)), (1, .bool b), (2, .int .i64 x)] Tryd.func62 rfl rfl rfl (by simp) args3 ?_
  have hE : Chg (fun k => k = g) w w := Chg.refl
  refine CW.seq_test 13 (e = 0 ∧ b = true) ?_ ?_
  · refine CW.region ?_
    refine WL.val (Y.move rfl) (by decide) ?_   -- t6 := move t0
    refine WL.val (Y.nilCheck rfl) (by decide) ?_   -- t7 := nilCheck t6
    refine WL.val (Y.fieldAddr fo_deltareader2 rfl) (by decide) ?_   -- t8 := fieldAddr 123 t7 2
    refine WL.val (Y.load1 Tryd.underlying23 rfl hB.mem.deltareader2 rfl) (by decide) ?_   -- t9 := load 23 t8
    refine WL.val (Y.eql rfl rfl) (by decide) ?_   -- t10 := binOp eql 23 t9 c(0:i64) 23
    refine WL.val (Y.move rfl) (by decide) ?_   -- t11 := move t10
    first | refine WL.casesD (d := 11) rfl (fun hg11 => ?_) (fun hg11 => ?_) | refine WL.casesND (d := 11) rfl (fun hg11 => ?_) (fun hg11 => ?_) | refine WL.cases (d := 11) rfl (fun hg11 => ?_) (fun hg11 => ?_)
    · -- t11 = T
      refine WL.gval rfl rfl (Y.move rfl) (by decide) ?_   -- t12 := move t1 [if 5=true]
      refine WL.val (Y.pick rfl rfl) (by decide) ?_   -- t13 := pick t11 t12 c(false)
      refine WL.nil ⟨⟨_, rfl, ?_⟩, rfl, (by repeat (first | exact Fr.le.refl | refine Fr.le.push rfl ?_))⟩
      first | (simp only [*, Int.natCast_inj, Bool.not_eq_true', decide_eq_false_iff_not, decide_eq_true_eq, not_true_eq_false, not_false_eq_true, true_and, false_and, and_true, and_false, false_or, or_false, true_or, or_true, iff_true, true_iff, iff_false, false_iff]; done) | (simp_all; done) | (refine congrArg Value.bool (Bool.eq_iff_iff.2 ?_); simp_all; done) | (simp_all; omega)
    · -- t11 = F
      refine WL.goff rfl rfl (by decide) ?_   -- t12 := move t1 [if 5=true]
      refine WL.val (Y.pick rfl rfl) (by decide) ?_   -- t13 := pick t11 t12 c(false)
      refine WL.nil ⟨⟨_, rfl, ?_⟩, rfl, (by repeat (first | exact Fr.le.refl | refine Fr.le.push rfl ?_))⟩
      first | (simp only [*, Int.natCast_inj, Bool.not_eq_true', decide_eq_false_iff_not, decide_eq_true_eq, not_true_eq_false, not_false_eq_true, true_and, false_and, and_true, and_false, false_or, or_false, true_or, or_true, iff_true, true_iff, iff_false, false_iff]; done) | (simp_all; done) | (refine congrArg Value.bool (Bool.eq_iff_iff.2 ?_); simp_all; done) | (simp_all; omega)
  first | refine CW.condD rfl (fun ht1 => ?_) (fun ht1 => ?_) | refine CW.condND rfl (fun ht1 => ?_) (fun ht1 => ?_) | refine CW.condN rfl (fun ht1 => ?_) (fun ht1 => ?_) | refine CW.cond rfl (fun ht1 => ?_) (fun ht1 => ?_)
  · -- then
    refine CW.region ?_   -- region 1
    refine WL.val (Y.move rfl) (by decide) ?_   -- t14 := move t0
    refine WL.val (Y.move rfl) (by decide) ?_   -- t15 := move t2
    refine WL.val (Y.nilCheck rfl) (by decide) ?_   -- t16 := nilCheck t14
    refine WL.val (Y.fieldAddr fo_deltareader2 rfl) (by decide) ?_   -- t17 := fieldAddr 123 t16 2
    refine WL.store (g := g) (pre := [dv, .int .i64 at_]) (old := [.int .i64 e]) (post := []) (new := [.int .i64 x]) rfl rfl rfl rfl (by kernel_rfl) (by simpa using hB) (by first | rfl | (simp [digC_length, opC_length]; done) | (simp only [digC_length, opC_length]; omega)) (one1 rfl) (fun w1 hc1 hB1_ => ?_)   -- _ := store 23 t17 t15
    have hz1 := hc1.size; have hE := hE.stepO hc1 (fun k h => (by show (k = g) ∨ _; omega))
    skip
    refine WL.nil ?_
    refine ⟨_, rfl, ?_⟩
    exact ⟨rfl, by rw [refE, if_pos (by assumption)]; simpa using hB1_, hE⟩
  -- else
  refine CW.skip ?_
  refine ⟨_, rfl, ?_⟩
  exact ⟨rfl, by rw [refE, if_neg (by assumption)]; exact hB, hE⟩
theorem dnum_any (g : Nat) (dv : Value) (d : List UInt8) (at_ : Nat) (e : Int) (w : World) (hB : Blk w g TDr [dv, .int .i64 (at_ : Int), .int .i64 e]) (hb : By w dv d) (hbg : d ≠ [] → ∀ k, dv.ownBlock = some k → k ≠ g) (hat : at_ ≤ d.length) : Calls Tryd.prog 63 #[.pointer (some ⟨g, 0, none⟩)] w (Ret fun r w' => ∃ n a : Nat, ∃ e1 : Int, NumR d at_ e n a e1 ∧ r = .int .i64 (n : Int) ∧ Blk w' g TDr [dv, .int .i64 (a : Int), .int .i64 e1] ∧ Chg (· = g) w w') := by
  obtain ⟨n, a, e1, hN, h1, h2, h3⟩ := gnum_numR (d := d) (at_ := at_)
  refine calls_of_CW 33 [2] [(0, .pointer (some ⟨g, 0, none⟩))] Tryd.func63 rfl rfl rfl (by simp) args1 ?_
  have hE : Chg (fun k => k = g) w w := Chg.refl
  refine CW.seq fun K1 hK1 => ?_
  refine CW.region ?_   -- region 0
  refine WL.val (Y.assign rfl) (by decide) ?_   -- t2 := assign c(0:i64)
  refine WL.nil ?_
  refine hK1 _ _ ?_; try clear hK1 K1
  refine CW.seq fun K2 hK2 => ?_
  refine CW.seq fun K3 hK3 => ?_
  refine CW.region ?_   -- region 1
  refine WL.val (Y.move rfl) (by decide) ?_   -- t6 := move t0
  refine WL.val (Y.nilCheck rfl) (by decide) ?_   -- t7 := nilCheck t6
  refine WL.val (Y.fieldAddr fo_deltareader2 rfl) (by decide) ?_   -- t8 := fieldAddr 123 t7 2
  refine WL.val (Y.load1 Tryd.underlying23 rfl hB.mem.deltareader2 rfl) (by decide) ?_   -- t9 := load 23 t8
  refine WL.val (Y.neq rfl rfl) (by decide) ?_   -- t10 := binOp neq 23 t9 c(0:i64) 23
  refine WL.nil ?_
  refine hK3 _ _ ?_; try clear hK3 K3
  first | refine CW.condD rfl (fun ht4 => ?_) (fun ht4 => ?_) | refine CW.condND rfl (fun ht4 => ?_) (fun ht4 => ?_) | refine CW.condN rfl (fun ht4 => ?_) (fun ht4 => ?_) | refine CW.cond rfl (fun ht4 => ?_) (fun ht4 => ?_)
  · -- then
    refine CW.seq fun K5 hK5 => ?_
    refine CW.region ?_   -- region 2
    refine WL.val (Y.assign rfl) (by decide) ?_   -- t2 := assign c(0:i64)
    refine WL.nil ?_
    refine hK5 _ _ ?_; try clear hK5 K5
    refine CW.ret ⟨_, rfl, ?_⟩
    exact ⟨0, at_, e, .inr (.inr ⟨by assumption, rfl, rfl, rfl⟩), rfl, hB, hE⟩
  -- else
  refine CW.skip ?_
  refine hK2 _ _ ?_; try clear hK2 K2
  refine CW.seq fun K6 hK6 => ?_
  refine CW.quiet (fun wq => Ext w wq) (by kernel_rfl) (by kernel_rfl) Chg.drew ?_
  refine QL.val (fun wq hq => Y.move rfl) (by decide) ?_   -- t12 := move t0
  refine QL.val (fun wq hq => Y.nilCheck rfl) (by decide) ?_   -- t13 := nilCheck t12
  refine QL.val (fun wq hq => Y.fieldAddr fo_deltareader0 rfl) (by decide) ?_   -- t14 := fieldAddr 123 t13 0
  refine QL.val (fun wq hq => Y.load1 Tryd.underlying33 rfl (hB.ext hq).mem.deltareader0 rfl) (by decide) ?_   -- t15 := load 33 t14
  refine QL.val (fun wq hq => Y.move rfl) (by decide) ?_   -- t16 := move t0
  refine QL.val (fun wq hq => Y.nilCheck rfl) (by decide) ?_   -- t17 := nilCheck t16
  refine QL.val (fun wq hq => Y.fieldAddr fo_deltareader1 rfl) (by decide) ?_   -- t18 := fieldAddr 123 t17 1
  refine QL.val (fun wq hq => Y.load1 Tryd.underlying3 rfl (hB.ext hq).mem.deltareader1 rfl) (by decide) ?_   -- t19 := load 3 t18
  refine QL.call Tryd.func47 rfl rfl rfl (fun wq hq => ret_ext (getNum_t _ d at_ _ (hb.ext hq) hat) hq) (by simp) ?_   -- t20 := call F47(t15, t19) : 33,3
  refine QL.val (fun wq hq => Y.move rfl) (by decide) ?_   -- t11 := move t20
  refine QL.val (fun wq hq => Y.extract rfl rfl) (by decide) ?_   -- t21 := extract t11 0
  refine QL.val (fun wq hq => Y.extract rfl rfl) (by decide) ?_   -- t22 := extract t11 1
  refine QL.val (fun wq hq => Y.extract rfl rfl) (by decide) ?_   -- t23 := extract t11 2
  refine QL.val (fun wq hq => Y.assign rfl) (by decide) ?_   -- t3 := assign t21
  refine QL.val (fun wq hq => Y.assign rfl) (by decide) ?_   -- t4 := assign t22
  refine QL.val (fun wq hq => Y.assign rfl) (by decide) ?_   -- t5 := assign t23
  refine QL.nil fun w1 hx1 => ?_
  have hz1 := hx1.size
  have hE := hE.thenExt hx1
  have hB := hB.ext hx1
  refine hK6 _ _ ?_; try clear hK6 K6
  refine CW.seq fun K7 hK7 => ?_
  refine CW.region ?_   -- region 4
  refine WL.val (Y.move rfl) (by decide) ?_   -- t24 := move t0
  refine WL.val (Y.move rfl) (by decide) ?_   -- t25 := move t0
  refine WL.val (Y.move rfl) (by decide) ?_   -- t26 := move t4
  refine WL.val (Y.move rfl) (by decide) ?_   -- t27 := move t5
  refine WL.val (Y.nilCheck rfl) (by decide) ?_   -- t28 := nilCheck t24
  refine WL.val (Y.fieldAddr fo_deltareader1 rfl) (by decide) ?_   -- t29 := fieldAddr 123 t28 1
  refine WL.store (g := g) (pre := [dv]) (old := [.int .i64 (at_ : Int)]) (post := [.int .i64 e]) (new := [.int .i64 (gX d at_)]) rfl rfl rfl rfl (by kernel_rfl) (by simpa using hB) (by first | rfl | (simp [digC_length, opC_length]; done) | (simp only [digC_length, opC_length]; omega)) (one1 rfl) (fun w2 hc2 hB2_ => ?_)   -- _ := store 3 t29 t26
  have hz2 := hc2.size; have hE := hE.stepO hc2 (fun k h => (by show (k = g) ∨ _; omega))
  have hB2 : Blk w2 g TDr [dv, .int .i64 (gX d at_), .int .i64 e] := by simpa using hB2_
  refine WL.val (Y.nilCheck rfl) (by decide) ?_   -- t30 := nilCheck t25
  refine WL.val (Y.fieldAddr fo_deltareader2 rfl) (by decide) ?_   -- t31 := fieldAddr 123 t30 2
  refine WL.store (g := g) (pre := [dv, .int .i64 (gX d at_)]) (old := [.int .i64 e]) (post := []) (new := [.int .i64 (gE d at_)]) rfl rfl rfl rfl (by kernel_rfl) (by simpa using hB2) (by first | rfl | (simp [digC_length, opC_length]; done) | (simp only [digC_length, opC_length]; omega)) (one1 rfl) (fun w3 hc3 hB3_ => ?_)   -- _ := store 23 t31 t27
  have hz3 := hc3.size; have hE := hE.stepO hc3 (fun k h => (by show (k = g) ∨ _; omega))
  skip
  refine WL.nil ?_
  refine hK7 _ _ ?_; try clear hK7 K7
  refine CW.seq fun K8 hK8 => ?_
  refine CW.region ?_   -- region 5
  refine WL.val (Y.move rfl) (by decide) ?_   -- t32 := move t3
  refine WL.val (Y.assign rfl) (by decide) ?_   -- t2 := assign t32
  refine WL.nil ?_
  refine hK8 _ _ ?_; try clear hK8 K8
  refine CW.ret ⟨_, rfl, ?_⟩
  have he : e = 0 := Decidable.not_not.1 (by assumption)
  exact ⟨n, a, e1, by rw [he]; exact hN, by rw [← h1]; rfl, by rw [h2, h3] at hB3_; simpa using hB3_, hE⟩
set_option maxRecDepth 100000 in
set_option maxHeartbeats 4000000 in
theorem apply_any (u v : Value) (base d : List UInt8) (w : World) (hu : By w u base) (hv : By w v d) : Calls Tryd.prog 51 #[u, v] w (Ret fun r w' => ∃ x, r = .tuple #[x, .int .i64 (apB base d).2] ∧ Own w' 5 1 x (bytesC (apB base d).1) ∧ (∀ k, x.ownBlock = some k → w.heap.size ≤ k) ∧ Ext w w') := by
  have hul := hu.ltB
  have hvl := hv.ltB
  have hu0 := hu
  have hv0 := hv
  obtain ⟨A, m, c, rfl⟩ := hu.lens
  obtain ⟨B, n, cb, rfl⟩ := hv.lens
  obtain ⟨hm, hmc, hcm⟩ := hu.len
  obtain ⟨hn, hnc, hncm⟩ := hv.len
  unfold maxLen at hcm hncm
  refine calls_of_CW 115 [4, 5] [(0, .slice A m c), (1, .slice B n cb)] Tryd.func51 rfl rfl rfl (by simp) args2 ?_
  have hE : Ext w w := Chg.refl
  refine CW.seq fun K1 hK1 => ?_
  refine CW.region ?_   -- region 0
  refine WL.val (Y.assign rfl) (by decide) ?_   -- t4 := assign c(nilslice)
  refine WL.val (Y.assign rfl) (by decide) ?_   -- t5 := assign c(0:i64)
  refine WL.nil ?_
  refine hK1 _ _ ?_; try clear hK1 K1
  refine CW.seq fun K2 hK2 => ?_
  refine CW.seq fun K3 hK3 => ?_
  refine CW.region ?_   -- region 1
  refine WL.val (Y.move rfl) (by decide) ?_   -- t12 := move t0
  refine WL.val (Y.len_slice Tryd.underlying33 rfl) (by decide) ?_   -- t13 := call len(t12) : 33
  refine WL.val (Y.gtr rfl rfl) (by decide) ?_   -- t14 := binOp gtr 3 t13 c(4096:i64) 3
  refine WL.nil ?_
  refine hK3 _ _ ?_; try clear hK3 K3
  first | refine CW.condD rfl (fun ht4 => ?_) (fun ht4 => ?_) | refine CW.condND rfl (fun ht4 => ?_) (fun ht4 => ?_) | refine CW.condN rfl (fun ht4 => ?_) (fun ht4 => ?_) | refine CW.cond rfl (fun ht4 => ?_) (fun ht4 => ?_)
  · -- then
    refine CW.seq fun K5 hK5 => ?_
    refine CW.region ?_   -- region 2
    refine WL.val (Y.assign rfl) (by decide) ?_   -- t4 := assign c(nilslice)
    refine WL.val (Y.assign rfl) (by decide) ?_   -- t5 := assign c(3:i64)
    refine WL.nil ?_
    refine hK5 _ _ ?_; try clear hK5 K5
    refine CW.ret ⟨_, rfl, ?_⟩
    have hc : 4096 < base.length := by omega
    exact ⟨_, by rw [apB, if_pos hc], by rw [apB, if_pos hc]; exact Own.nil, (fun k hk => by cases hk), hE⟩
  -- else
  refine CW.skip ?_
  refine hK2 _ _ ?_; try clear hK2 K2
  refine CW.seq fun K6 hK6 => ?_
  refine CW.region ?_   -- region 3
  refine WL.val (Y.move rfl) (by decide) ?_   -- t15 := move t1
  refine WL.val (Y.build rfl (build_dreader _ _ _ _)) (by decide) ?_   -- t16 := build 123 [(0,t15)]
  refine as_deltareader rfl (by simp) (by decide) fun g6 w1 hx1 hg6 hB6 => ?_   -- alloc 123; store 123 t6 t16
  have hlt6 := hB6.lt; have hz1 := hx1.size
  have hM6 := hB6.mem; have hz1 := hx1.size; have hE := hE.thenExt hx1
  refine WL.nil ?_
  refine hK6 _ _ ?_; try clear hK6 K6
  refine CW.seq fun K7 hK7 => ?_
  refine CW.region ?_   -- region 4
  refine WL.call Tryd.func63 rfl rfl rfl (dnum_any g6 _ d 0 0 _ hB6 (hv.ext hx1) (fun h0 k hk => by have := hvl h0 k hk; omega) (Nat.zero_le _)) (by simp) ?_; rintro v17 w2 hR2   -- t17 := call F63(t6) : 123
  obtain ⟨n1, a1, e1, hN2, rfl, hB6, hc2⟩ := hR2
  have hz2 := hc2.size
  have hE := hE.step hc2 (fun k h => by have h : k = g6 := h; omega)
  have hv := hv0.ext hE
  have hu := hu0.ext hE
  obtain ⟨hle2, hlt2⟩ := hN2.le (show 0 ≤ d.length by omega)
  refine WL.val (Y.move rfl) (by decide) ?_   -- t18 := move t0
  refine WL.val (Y.len_slice Tryd.underlying33 rfl) (by decide) ?_   -- t19 := call len(t18) : 33
  refine WL.val (Y.neq rfl rfl) (by decide) ?_   -- t20 := binOp neq 3 t17 t19 3
  refine WL.call Tryd.func62 rfl rfl rfl (drefuse_any g6 _ (a1 : Int) e1 _ 1 _ hB6) (by simp) ?_; rintro v21 w3 hR3   -- t21 := call F62(t6, t20, c(1:i64)) : 123,4,23
  obtain ⟨rfl, hB6, hc3⟩ := hR3
  have hz3 := hc3.size
  have hE := hE.step hc3 (fun k h => by have h : k = g6 := h; omega)
  have hv := hv0.ext hE
  have hu := hu0.ext hE
  refine WL.nil ?_
  refine hK7 _ _ ?_; try clear hK7 K7
  refine CW.seq fun K8 hK8 => ?_
  refine CW.region ?_   -- region 5
  refine WL.call Tryd.func63 rfl rfl rfl (dnum_any g6 _ d a1 _ _ hB6 hv (fun h0 k hk => by have := hvl h0 k hk; omega) hle2) (by simp) ?_; rintro v22 w4 hR4   -- t22 := call F63(t6) : 123
  obtain ⟨size, a2, e3, hN4, rfl, hB6, hc4⟩ := hR4
  have hz4 := hc4.size
  have hE := hE.step hc4 (fun k h => by have h : k = g6 := h; omega)
  have hv := hv0.ext hE
  have hu := hu0.ext hE
  obtain ⟨hle4, hlt4⟩ := hN4.le (show a1 ≤ d.length by omega)
  refine WL.val (Y.assign rfl) (by decide) ?_   -- t7 := assign t22
  refine WL.nil ?_
  refine hK8 _ _ ?_; try clear hK8 K8
  refine CW.seq fun K9 hK9 => ?_
  refine CW.region ?_   -- region 6
  refine WL.val (Y.move rfl) (by decide) ?_   -- t23 := move t7
  refine WL.val (Y.gtr rfl rfl) (by decide) ?_   -- t24 := binOp gtr 3 t23 c(4096:i64) 3
  refine WL.call Tryd.func62 rfl rfl rfl (drefuse_any g6 _ (a2 : Int) e3 _ 3 _ hB6) (by simp) ?_; rintro v25 w5 hR5   -- t25 := call F62(t6, t24, c(3:i64)) : 123,4,23
  obtain ⟨rfl, hB6, hc5⟩ := hR5
  have hz5 := hc5.size
  have hE := hE.step hc5 (fun k h => by have h : k = g6 := h; omega)
  have hv := hv0.ext hE
  have hu := hu0.ext hE
  have hhd := ap_head (base := base) (d := d) (by omega) hN2 (by rw [show decide (n1 ≠ base.length) = decide ((n1 : Int) ≠ (m : Int)) from decide_eq_decide.2 (by omega)]; exact hN4)
  obtain ⟨e4, he4⟩ : ∃ e4, e4 = refE e3 (decide (4096 < size)) 3 := ⟨_, rfl⟩
  rw [← he4] at hhd
  rw [show refE e3 (decide ((4096 : Int) < (size : Int))) 3 = e4 from by rw [he4]; congr 1; exact decide_eq_decide.2 (by omega)] at hB6
  have hsz : e4 = 0 → size ≤ 4096 := by
    intro h
    rw [he4, refE] at h
    split at h
    · cases h
    · rename_i hx
      rcases Nat.lt_or_ge 4096 size with h1 | h1
      · exact absurd ⟨h, by simp [h1]⟩ hx
      · exact h1
  refine WL.nil ?_
  refine hK9 _ _ ?_; try clear hK9 K9
  refine CW.seq fun K10 hK10 => ?_
  refine CW.region ?_   -- region 7
  refine WL.val (Y.assign rfl) (by decide) ?_   -- t8 := assign c(nilslice)
  refine WL.nil ?_
  refine hK10 _ _ ?_; try clear hK10 K10
  refine CW.seq fun K11 hK11 => ?_
  refine CW.block ?_   -- block 0
  refine CW.loop (X := Nat × Int × Nat × Value × List UInt8) (fun x => [(0, .slice A m c), (1, .slice B n cb), (6, .pointer (some ⟨g6, 0, none⟩)), (7, .int .i64 (size : Int)), (8, x.2.2.2.1)]) (fun x w0 => apB base d = (if x.2.1 ≠ 0 then ([], x.2.1) else apEnd d (apL base d size x.2.2.1 x.1 x.2.2.2.2)) ∧ x.1 ≤ d.length ∧ (x.2.1 = 0 → size < x.2.2.2.2.length + x.2.2.1 ∧ x.2.2.2.2.length ≤ size ∧ size ≤ 4096) ∧ x.2.2.2.2.length ≤ 4096 ∧ Blk w0 g6 TDr [.slice B n cb, .int .i64 (x.1 : Int), .int .i64 x.2.1] ∧ Own w0 5 1 x.2.2.2.1 (bytesC x.2.2.2.2) ∧ (∀ k, (x.2.2.2.1 : Value).ownBlock = some k → w.heap.size ≤ k ∧ k ≠ g6) ∧ Ext w w0) (fun x => (if x.2.1 = 0 then x.2.2.1 + 1 else 0)) (a2, e4, size + 1, .slice none 0 0, []) (by repeat (first | exact Fr.le.nil | refine Fr.le.cons rfl ?_)) ⟨hhd, hle4, (fun h => ⟨by show size < 0 + (size + 1); omega, Nat.zero_le _, hsz h⟩), by show 0 ≤ 4096; omega, hB6, Own.nil, (fun k hk => by cases hk), hE⟩ ?_
  intro x w6 hl6
  clear hE hB6 hv hu
  obtain ⟨at_, e, f, ov, out⟩ := x
  dsimp only at hl6 ⊢
  obtain ⟨hres, hat, hfuel, hol, hB6, hO, hof, hE⟩ := hl6
  obtain ⟨Ao, mo, co, rfl⟩ := hO.lens
  have hmo := hO.by.len.1
  have hv := hv0.ext hE
  have hu := hu0.ext hE
  have hzE := hE.size
  have hg6l := hB6.lt
  refine CW.seq fun K12 hK12 => ?_
  refine CW.seq_test 34 (e = 0 ∧ (mo : Int) < (size : Int)) ?_ ?_
  · refine CW.region ?_
    refine WL.val (Y.fieldAddr fo_deltareader2 rfl) (by decide) ?_   -- t26 := fieldAddr 123 t6 2
    refine WL.val (Y.load1 Tryd.underlying23 rfl hB6.mem.deltareader2 rfl) (by decide) ?_   -- t27 := load 23 t26
    refine WL.val (Y.eql rfl rfl) (by decide) ?_   -- t28 := binOp eql 23 t27 c(0:i64) 23
    refine WL.val (Y.move rfl) (by decide) ?_   -- t29 := move t28
    first | refine WL.casesD (d := 29) rfl (fun hg29 => ?_) (fun hg29 => ?_) | refine WL.casesND (d := 29) rfl (fun hg29 => ?_) (fun hg29 => ?_) | refine WL.cases (d := 29) rfl (fun hg29 => ?_) (fun hg29 => ?_)
    · -- t29 = T
      refine WL.gval rfl rfl (Y.move rfl) (by decide) ?_   -- t30 := move t8 [if 3=true]
      refine WL.gval rfl rfl (Y.len_slice Tryd.underlying33 rfl) (by decide) ?_   -- t31 := call len(t30) : 33 [if 3=true]
      refine WL.gval rfl rfl (Y.move rfl) (by decide) ?_   -- t32 := move t7 [if 3=true]
      refine WL.gval rfl rfl (Y.lss rfl rfl) (by decide) ?_   -- t33 := binOp lss 3 t31 t32 3 [if 3=true]
      refine WL.val (Y.pick rfl rfl) (by decide) ?_   -- t34 := pick t29 t33 c(false)
      refine WL.nil ⟨⟨_, rfl, ?_⟩, rfl, (by repeat (first | exact Fr.le.refl | refine Fr.le.push rfl ?_))⟩
      first | (simp only [*, Int.natCast_inj, Bool.not_eq_true', decide_eq_false_iff_not, decide_eq_true_eq, not_true_eq_false, not_false_eq_true, true_and, false_and, and_true, and_false, false_or, or_false, true_or, or_true, iff_true, true_iff, iff_false, false_iff]; done) | (simp_all; done) | (refine congrArg Value.bool (Bool.eq_iff_iff.2 ?_); simp_all; done) | (simp_all; omega)
    · -- t29 = F
      refine WL.goff rfl rfl (by decide) ?_   -- t30 := move t8 [if 3=true]
      refine WL.goff rfl rfl (by decide) ?_   -- t31 := call len(t30) : 33 [if 3=true]
      refine WL.goff rfl rfl (by decide) ?_   -- t32 := move t7 [if 3=true]
      refine WL.goff rfl rfl (by decide) ?_   -- t33 := binOp lss 3 t31 t32 3 [if 3=true]
      refine WL.val (Y.pick rfl rfl) (by decide) ?_   -- t34 := pick t29 t33 c(false)
      refine WL.nil ⟨⟨_, rfl, ?_⟩, rfl, (by repeat (first | exact Fr.le.refl | refine Fr.le.push rfl ?_))⟩
      first | (simp only [*, Int.natCast_inj, Bool.not_eq_true', decide_eq_false_iff_not, decide_eq_true_eq, not_true_eq_false, not_false_eq_true, true_and, false_and, and_true, and_false, false_or, or_false, true_or, or_true, iff_true, true_iff, iff_false, false_iff]; done) | (simp_all; done) | (refine congrArg Value.bool (Bool.eq_iff_iff.2 ?_); simp_all; done) | (simp_all; omega)
  first | refine CW.condD rfl (fun ht13 => ?_) (fun ht13 => ?_) | refine CW.condND rfl (fun ht13 => ?_) (fun ht13 => ?_) | refine CW.condN rfl (fun ht13 => ?_) (fun ht13 => ?_) | refine CW.cond rfl (fun ht13 => ?_) (fun ht13 => ?_)
  · -- then
    refine CW.skip ?_
    refine hK12 _ _ ?_; try clear hK12 K12
    refine CW.block ?_   -- block 1
    refine CW.seq fun K14 hK14 => ?_
    refine CW.region ?_   -- region 9
    refine WL.call Tryd.func63 rfl rfl rfl (dnum_any g6 _ d at_ e _ hB6 hv (fun h0 k hk => by have := hvl h0 k hk; omega) hat) (by simp) ?_; rintro v35 w7 hR7   -- t35 := call F63(t6) : 123
    obtain ⟨he0, hlt0⟩ : e = 0 ∧ (mo : Int) < (size : Int) := by assumption
    subst he0
    rw [if_neg (by simp)] at hres
    obtain ⟨hf1, hf2, hf3⟩ := hfuel rfl
    obtain ⟨mm, a1, e1, hN7, rfl, hB6, hc7⟩ := hR7
    have hz7 := hc7.size
    have hE := hE.step hc7 (fun k h => by have h : k = g6 := h; omega)
    have hv := hv0.ext hE
    have hu := hu0.ext hE
    obtain ⟨hle7, hlt7⟩ := hN7.le (show at_ ≤ d.length by omega)
    have hO := hO.chg hc7 (fun k hk h => (hof k hk).2 h)
    refine WL.val (Y.assign rfl) (by decide) ?_   -- t9 := assign t35
    refine WL.nil ?_
    refine hK14 _ _ ?_; try clear hK14 K14
    refine CW.seq fun K15 hK15 => ?_
    refine CW.region ?_   -- region 10
    refine WL.val (Y.move rfl) (by decide) ?_   -- t36 := move t9
    refine WL.val (Y.quoN (q := 2) rfl rfl (by decide)) (by decide) ?_   -- t37 := binOp quo 3 t36 c(2:i64) 3
    refine WL.val (Y.assign rfl) (by decide) ?_   -- t10 := assign t37
    refine WL.nil ?_
    refine hK15 _ _ ?_; try clear hK15 K15
    refine CW.seq_to (X := Int) (fun _ => [(0, .slice A m c), (1, .slice B n cb), (6, .pointer (some ⟨g6, 0, none⟩)), (7, .int .i64 (size : Int)), (8, .slice Ao mo co), (9, .int .i64 (mm : Int)), (10, .int .i64 ((mm / 2 : Nat) : Int))]) (fun y w0 => Blk w0 g6 TDr [.slice B n cb, .int .i64 (a1 : Int), .int .i64 y] ∧ y = (if e1 = 0 ∧ (mm / 2 = 0 ∨ size - out.length < mm / 2) then 7 else e1) ∧ Own w0 5 1 (.slice Ao mo co) (bytesC out) ∧ Ext w w0) ?_ ?_
    · skip
      refine CW.region ?_   -- region 11
      refine WL.val (Y.move rfl) (by decide) ?_   -- t38 := move t10
      refine WL.val (Y.eql rfl rfl) (by decide) ?_   -- t39 := binOp eql 3 t38 c(0:i64) 3
      refine WL.val (Y.move rfl) (by decide) ?_   -- t40 := move t39
      first | refine WL.casesD (d := 40) rfl (fun hg40 => ?_) (fun hg40 => ?_) | refine WL.casesND (d := 40) rfl (fun hg40 => ?_) (fun hg40 => ?_) | refine WL.cases (d := 40) rfl (fun hg40 => ?_) (fun hg40 => ?_)
      · -- t40 = T
        refine WL.goff rfl rfl (by decide) ?_   -- t41 := move t10 [if 2=false]
        refine WL.goff rfl rfl (by decide) ?_   -- t42 := move t7 [if 2=false]
        refine WL.goff rfl rfl (by decide) ?_   -- t43 := move t8 [if 2=false]
        refine WL.goff rfl rfl (by decide) ?_   -- t44 := call len(t43) : 33 [if 2=false]
        refine WL.goff rfl rfl (by decide) ?_   -- t45 := binOp sub 3 t42 t44 3 [if 2=false]
        refine WL.goff rfl rfl (by decide) ?_   -- t46 := binOp gtr 3 t41 t45 3 [if 2=false]
        refine WL.val (Y.pick rfl rfl) (by decide) ?_   -- t47 := pick t40 c(true) t46
        refine WL.call Tryd.func62 rfl rfl rfl (drefuse_any g6 _ (a1 : Int) e1 _ 7 _ hB6) (by simp) ?_; rintro v48 w8 hR8   -- t48 := call F62(t6, t47, c(7:i64)) : 123,4,23
        obtain ⟨rfl, hB6, hc8⟩ := hR8
        have hz8 := hc8.size
        have hE := hE.step hc8 (fun k h => by have h : k = g6 := h; omega)
        have hv := hv0.ext hE
        have hu := hu0.ext hE
        have hO := hO.chg hc8 (fun k hk h => (hof k hk).2 h)
        refine WL.nil ?_
        exact ⟨refE e1 true 7, (by repeat (first | exact Fr.le.nil | refine Fr.le.cons rfl ?_)), hB6, by rw [refE]; exact ite_iff (and_congr Iff.rfl ⟨fun _ => .inl (by omega), fun _ => rfl⟩), hO, hE⟩
      · -- t40 = F
        refine WL.gval rfl rfl (Y.move rfl) (by decide) ?_   -- t41 := move t10 [if 2=false]
        refine WL.gval rfl rfl (Y.move rfl) (by decide) ?_   -- t42 := move t7 [if 2=false]
        refine WL.gval rfl rfl (Y.move rfl) (by decide) ?_   -- t43 := move t8 [if 2=false]
        refine WL.gval rfl rfl (Y.len_slice Tryd.underlying33 rfl) (by decide) ?_   -- t44 := call len(t43) : 33 [if 2=false]
        refine WL.gval rfl rfl (Y.sub rfl rfl ⟨by omega, by omega⟩) (by decide) ?_   -- t45 := binOp sub 3 t42 t44 3 [if 2=false]
        refine WL.gval rfl rfl (Y.gtr rfl rfl) (by decide) ?_   -- t46 := binOp gtr 3 t41 t45 3 [if 2=false]
        refine WL.val (Y.pick rfl rfl) (by decide) ?_   -- t47 := pick t40 c(true) t46
        refine WL.call Tryd.func62 rfl rfl rfl (drefuse_any g6 _ (a1 : Int) e1 _ 7 _ hB6) (by simp) ?_; rintro v48 w9 hR9   -- t48 := call F62(t6, t47, c(7:i64)) : 123,4,23
        obtain ⟨rfl, hB6, hc9⟩ := hR9
        have hz9 := hc9.size
        have hE := hE.step hc9 (fun k h => by have h : k = g6 := h; omega)
        have hv := hv0.ext hE
        have hu := hu0.ext hE
        have hO := hO.chg hc9 (fun k hk h => (hof k hk).2 h)
        refine WL.nil ?_
        exact ⟨refE e1 _ 7, (by repeat (first | exact Fr.le.nil | refine Fr.le.cons rfl ?_)), hB6, by rw [refE]; exact ite_iff (and_congr Iff.rfl (by rw [decide_eq_true_iff]; omega)), hO, hE⟩
    rintro u w10 hj10
    clear hE hB6 hv hu hO
    obtain ⟨hB6, hue, hO, hE⟩ := hj10
    have hv := hv0.ext hE
    have hu := hu0.ext hE
    have hzE := hE.size
    have hg6l := hB6.lt
    obtain ⟨f, rfl⟩ : ∃ f_, f = f_ + 1 := ⟨f - 1, by omega⟩
    refine CW.seq fun K16 hK16 => ?_
    refine CW.seq fun K17 hK17 => ?_
    refine CW.region ?_   -- region 12
    refine WL.val (Y.move rfl) (by decide) ?_   -- t49 := move t9
    refine WL.val (Y.remN (q := 2) rfl rfl (by decide)) (by decide) ?_   -- t50 := binOp rem 3 t49 c(2:i64) 3
    refine WL.val (Y.eql rfl rfl) (by decide) ?_   -- t51 := binOp eql 3 t50 c(0:i64) 3
    refine WL.nil ?_
    refine hK17 _ _ ?_; try clear hK17 K17
    first | refine CW.condD rfl (fun ht18 => ?_) (fun ht18 => ?_) | refine CW.condND rfl (fun ht18 => ?_) (fun ht18 => ?_) | refine CW.condN rfl (fun ht18 => ?_) (fun ht18 => ?_) | refine CW.cond rfl (fun ht18 => ?_) (fun ht18 => ?_)
    · -- then
      refine CW.seq fun K19 hK19 => ?_
      refine CW.region ?_   -- region 13
      refine WL.val (Y.move rfl) (by decide) ?_   -- t52 := move t10
      refine WL.val (Y.move rfl) (by decide) ?_   -- t53 := move t1
      refine WL.val (Y.len_slice Tryd.underlying33 rfl) (by decide) ?_   -- t54 := call len(t53) : 33
      refine WL.val (Y.fieldAddr fo_deltareader1 rfl) (by decide) ?_   -- t55 := fieldAddr 123 t6 1
      refine WL.val (Y.load1 Tryd.underlying3 rfl hB6.mem.deltareader1 rfl) (by decide) ?_   -- t56 := load 3 t55
      refine WL.val (Y.sub rfl rfl ⟨by omega, by omega⟩) (by decide) ?_   -- t57 := binOp sub 3 t54 t56 3
      refine WL.val (Y.gtr rfl rfl) (by decide) ?_   -- t58 := binOp gtr 3 t52 t57 3
      refine WL.call Tryd.func62 rfl rfl rfl (drefuse_any g6 _ (a1 : Int) u _ 8 _ hB6) (by simp) ?_; rintro v59 w11 hR11   -- t59 := call F62(t6, t58, c(8:i64)) : 123,4,23
      obtain ⟨rfl, hB6, hc11⟩ := hR11
      have hz11 := hc11.size
      have hE := hE.step hc11 (fun k h => by have h : k = g6 := h; omega)
      have hv := hv0.ext hE
      have hu := hu0.ext hE
      have hO := hO.chg hc11 (fun k hk h => (hof k hk).2 h)
      obtain ⟨e3_, he3_⟩ : ∃ e3_, e3_ = refE u (decide ((n : Int) - (a1 : Int) < ((mm / 2 : Nat) : Int))) 8 := ⟨_, rfl⟩
      rw [← he3_] at hB6
      have hm2 : mm % 2 = 0 := by omega
      have hev : e3_ = 0 → e3_ = 0 ∧ gnum d at_ = .ok (mm, a1) ∧ ¬ (mm / 2 = 0 ∨ size - out.length < mm / 2) ∧ ¬ d.length - a1 < mm / 2 := by
        intro h
        rw [he3_, refE] at h
        split at h
        · cases h
        rename_i hx
        rw [h] at hx
        rw [h] at hue
        rcases hN7 with ⟨_, he, hg⟩ | ⟨_, he, _⟩ | ⟨h, _⟩
        · refine ⟨by rw [he3_, h, refE, if_neg hx], hg, fun hq => ?_, fun hq => hx ⟨rfl, by rw [decide_eq_true_iff]; omega⟩⟩
          rw [if_pos ⟨he, hq⟩] at hue; cases hue
        · split at hue
          · cases hue
          · exact absurd hue.symm he
        · exact absurd rfl h
      have hbad : e3_ ≠ 0 → apB base d = ([], e3_) := by
        intro h
        rw [hres]
        rcases hN7 with ⟨_, he, hg⟩ | ⟨_, he, hg, _⟩ | ⟨h, _⟩
        · by_cases hq : (mm / 2 = 0 ∨ size - out.length < mm / 2)
          · rw [if_pos ⟨he, hq⟩] at hue
            rw [apE_bad (by omega) hg hq, he3_, hue, refE, if_neg (fun x => by cases x.1)]
          · rw [if_neg (fun x => hq x.2), he] at hue
            rw [he3_, hue, refE] at h ⊢
            by_cases hd : (n : Int) - (a1 : Int) < ((mm / 2 : Nat) : Int)
            · rw [if_pos ⟨rfl, decide_eq_true hd⟩, apE_end (by omega) hg hq hm2 (by omega)]
            · rw [if_neg (fun x => hd (of_decide_eq_true x.2))] at h; exact absurd rfl h
        · rw [if_neg (fun x => he x.1)] at hue
          rw [he3_, hue, refE, if_neg (fun x => he x.1), apE_num (by omega) hg]
        · exact absurd rfl h
      refine WL.nil ?_
      refine hK19 _ _ ?_; try clear hK19 K19
      refine CW.seq_to (X := Nat × Int × Nat × Value × List UInt8) (fun y => [(0, .slice A m c), (1, .slice B n cb), (6, .pointer (some ⟨g6, 0, none⟩)), (7, .int .i64 (size : Int)), (8, y.2.2.2.1)]) (fun y w0 => (if y.2.1 = 0 then y.2.2.1 + 1 else 0) < f + 1 + 1 ∧ apB base d = (if y.2.1 ≠ 0 then ([], y.2.1) else apEnd d (apL base d size y.2.2.1 y.1 y.2.2.2.2)) ∧ y.1 ≤ d.length ∧ (y.2.1 = 0 → size < y.2.2.2.2.length + y.2.2.1 ∧ y.2.2.2.2.length ≤ size ∧ size ≤ 4096) ∧ y.2.2.2.2.length ≤ 4096 ∧ Blk w0 g6 TDr [.slice B n cb, .int .i64 (y.1 : Int), .int .i64 y.2.1] ∧ Own w0 5 1 y.2.2.2.1 (bytesC y.2.2.2.2) ∧ (∀ k, (y.2.2.2.1 : Value).ownBlock = some k → w.heap.size ≤ k ∧ k ≠ g6) ∧ Ext w w0) ?_ ?_
      · skip
        refine CW.seq fun K21 hK21 => ?_
        refine CW.region ?_   -- region 14
        refine WL.val (Y.fieldAddr fo_deltareader2 rfl) (by decide) ?_   -- t60 := fieldAddr 123 t6 2
        refine WL.val (Y.load1 Tryd.underlying23 rfl hB6.mem.deltareader2 rfl) (by decide) ?_   -- t61 := load 23 t60
        refine WL.val (Y.eql rfl rfl) (by decide) ?_   -- t62 := binOp eql 23 t61 c(0:i64) 23
        refine WL.nil ?_
        refine hK21 _ _ ?_; try clear hK21 K21
        first | refine CW.condD rfl (fun ht22 => ?_) (fun ht22 => ?_) | refine CW.condND rfl (fun ht22 => ?_) (fun ht22 => ?_) | refine CW.condN rfl (fun ht22 => ?_) (fun ht22 => ?_) | refine CW.cond rfl (fun ht22 => ?_) (fun ht22 => ?_)
        · -- then
          refine CW.seq fun K23 hK23 => ?_
          obtain ⟨he3, hok, hnb, hle8⟩ := hev (by assumption); obtain ⟨b1, rfl, hmb⟩ := hv.mem.1 (by omega); refine CW.region ?_
          refine WL.val (Y.move rfl) (by decide) ?_   -- t63 := move t8
          refine WL.val (Y.move rfl) (by decide) ?_   -- t64 := move t1
          refine WL.val (Y.fieldAddr fo_deltareader1 rfl) (by decide) ?_   -- t65 := fieldAddr 123 t6 1
          refine WL.val (Y.load1 Tryd.underlying3 rfl hB6.mem.deltareader1 rfl) (by decide) ?_   -- t66 := load 3 t65
          refine WL.val (Y.fieldAddr fo_deltareader1 rfl) (by decide) ?_   -- t67 := fieldAddr 123 t6 1
          refine WL.val (Y.load1 Tryd.underlying3 rfl hB6.mem.deltareader1 rfl) (by decide) ?_   -- t68 := load 3 t67
          refine WL.val (Y.move rfl) (by decide) ?_   -- t69 := move t10
          refine WL.val (Y.add rfl rfl ⟨by omega, by omega⟩) (by decide) ?_   -- t70 := binOp add 3 t68 t69 3
          refine WL.val (Y.slice_slI (i := a1) (j := a1 + mm / 2) Tryd.underlying33 rfl rfl rfl sz0_uint8 (by omega) (by omega) (by omega) (by omega)) (by decide) ?_   -- t71 := slice 33 t64 t66 t70 none
          refine WL.st (St.app (xs := out) (ys := (d.drop a1).take (a1 + mm / 2 - a1)) Tryd.underlying33 Tryd.underlying33 ai_u8 rfl rfl hO (Src.cut hv (by omega) (by omega)) (by omega)) (by decide) fun v72 w12 hR12 => ?_   -- t72 := call append(t63, t71) : 33,33
          obtain ⟨hO12, hc12, hf12⟩ := hR12
          have hz12 := hc12.size
          have hE := hE.step hc12 (fun k h => (hof k h).1)
          have hB6 := hB6.chg hc12 (fun h => (hof _ h).2 rfl)
          rw [Nat.add_sub_cancel_left] at hO12
          have hg6l := hB6.lt
          have hf12 : ∀ k, v72.ownBlock = some k → w.heap.size ≤ k ∧ k ≠ g6 := by
            rcases hf12 with h_ | h_
            · intro k hk; rw [h_] at hk; exact hof k hk
            · intro k hk; have := h_ k hk; exact ⟨by omega, by omega⟩
          refine WL.val (Y.assign rfl) (by decide) ?_   -- t8 := assign t72
          refine WL.nil ?_
          refine hK23 _ _ ?_; try clear hK23 K23
          refine CW.region ?_   -- region 16
          refine WL.val (Y.fieldAddr fo_deltareader1 rfl) (by decide) ?_   -- t73 := fieldAddr 123 t6 1
          refine WL.val (Y.load1 Tryd.underlying3 rfl hB6.mem.deltareader1 rfl) (by decide) ?_   -- t74 := load 3 t73
          refine WL.val (Y.move rfl) (by decide) ?_   -- t75 := move t10
          refine WL.val (Y.add rfl rfl ⟨by omega, by omega⟩) (by decide) ?_   -- t76 := binOp add 3 t74 t75 3
          refine WL.val (Y.fieldAddr fo_deltareader1 rfl) (by decide) ?_   -- t77 := fieldAddr 123 t6 1
          refine WL.store (g := g6) (pre := [.slice (some b1) n cb]) (old := [.int .i64 (a1 : Int)]) (post := [.int .i64 e3_]) (new := [.int .i64 ((a1 : Int) + ((mm / 2 : Nat) : Int))]) rfl rfl rfl rfl (by kernel_rfl) (by simpa using hB6) (by first | rfl | (simp [digC_length, opC_length]; done) | (simp only [digC_length, opC_length]; omega)) (one1 rfl) (fun w13 hc13 hB13_ => ?_)   -- _ := store 3 t77 t76
          have hz13 := hc13.size; have hE := hE.step hc13 (fun k h => by omega)
          skip
          refine WL.nil ?_
          have hlen : ((d.drop a1).take (mm / 2)).length = mm / 2 := by rw [List.length_take, List.length_drop]; omega
          refine ⟨(a1 + mm / 2, e3_, f, v72, out ++ (d.drop a1).take (mm / 2)), (by repeat (first | exact Fr.le.nil | refine Fr.le.cons rfl ?_)), by show (if e3_ = 0 then f + 1 else 0) < f + 1 + 1; split <;> omega, ?_, by show a1 + mm / 2 ≤ d.length; omega, fun _ => ?_, ?_, by simpa using hB13_, hO12.chg hc13 (fun k hk h => (hf12 k hk).2 h), hf12, hE⟩
          · show apB base d = if e3_ ≠ 0 then _ else _
            rw [if_neg (by simp [he3]), hres, ap_own (by omega) hok hnb hm2 hle8]
          · show size < (out ++ _).length + f ∧ (out ++ _).length ≤ size ∧ size ≤ 4096
            rw [List.length_append, hlen]; omega
          · show (out ++ _).length ≤ 4096
            rw [List.length_append, hlen]; omega
        -- else
        refine CW.skip ?_
        refine ⟨(a1, e3_, f + 1, .slice Ao mo co, out), (by repeat (first | exact Fr.le.nil | refine Fr.le.cons rfl ?_)), by show (if e3_ = 0 then f + 1 + 1 else 0) < f + 1 + 1; rw [if_neg (by assumption)]; omega, ?_, hle7, (fun h => absurd h (by assumption)), hol, hB6, hO, hof, hE⟩
        show apB base d = if e3_ ≠ 0 then _ else _
        rw [if_pos (by assumption)]
        exact hbad (by assumption)
      rintro u w14 hj14
      obtain ⟨hmu, hLI⟩ := hj14
      refine CW.exit ?_   -- exit 1
      exact ⟨u, (show _ < (if (0 : Int) = 0 then f + 1 + 1 else 0) by rw [if_pos rfl]; exact hmu), (by repeat (first | exact Fr.le.nil | refine Fr.le.cons rfl ?_)), hLI⟩
    -- else
    refine CW.skip ?_
    refine hK16 _ _ ?_; try clear hK16 K16
    refine CW.seq fun K24 hK24 => ?_
    refine CW.region ?_   -- region 17
    refine WL.call Tryd.func63 rfl rfl rfl (dnum_any g6 _ d a1 u _ hB6 hv (fun h0 k hk => by have := hvl h0 k hk; omega) hle7) (by simp) ?_; rintro v78 w15 hR15   -- t78 := call F63(t6) : 123
    obtain ⟨k_, a2, e5, hN15, rfl, hB6, hc15⟩ := hR15
    have hz15 := hc15.size
    have hE := hE.step hc15 (fun k h => by have h : k = g6 := h; omega)
    have hv := hv0.ext hE
    have hu := hu0.ext hE
    obtain ⟨hle15, hlt15⟩ := hN15.le (show a1 ≤ d.length by omega)
    have hO := hO.chg hc15 (fun k hk h => (hof k hk).2 h)
    refine WL.val (Y.assign rfl) (by decide) ?_   -- t11 := assign t78
    refine WL.nil ?_
    refine hK24 _ _ ?_; try clear hK24 K24
    refine CW.seq_to (X := Int) (fun _ => [(0, .slice A m c), (1, .slice B n cb), (6, .pointer (some ⟨g6, 0, none⟩)), (7, .int .i64 (size : Int)), (8, .slice Ao mo co), (9, .int .i64 (mm : Int)), (10, .int .i64 ((mm / 2 : Nat) : Int)), (11, .int .i64 (k_ : Int))]) (fun y w0 => Blk w0 g6 TDr [.slice B n cb, .int .i64 (a2 : Int), .int .i64 y] ∧ y = (if e5 = 0 ∧ (base.length < k_ ∨ base.length - k_ < mm / 2) then 9 else e5) ∧ Own w0 5 1 (.slice Ao mo co) (bytesC out) ∧ Ext w w0) ?_ ?_
    · skip
      refine CW.region ?_   -- region 18
      refine WL.val (Y.move rfl) (by decide) ?_   -- t79 := move t11
      refine WL.val (Y.move rfl) (by decide) ?_   -- t80 := move t0
      refine WL.val (Y.len_slice Tryd.underlying33 rfl) (by decide) ?_   -- t81 := call len(t80) : 33
      refine WL.val (Y.gtr rfl rfl) (by decide) ?_   -- t82 := binOp gtr 3 t79 t81 3
      refine WL.val (Y.move rfl) (by decide) ?_   -- t83 := move t82
      first | refine WL.casesD (d := 83) rfl (fun hg83 => ?_) (fun hg83 => ?_) | refine WL.casesND (d := 83) rfl (fun hg83 => ?_) (fun hg83 => ?_) | refine WL.cases (d := 83) rfl (fun hg83 => ?_) (fun hg83 => ?_)
      · -- t83 = T
        refine WL.goff rfl rfl (by decide) ?_   -- t84 := move t10 [if 4=false]
        refine WL.goff rfl rfl (by decide) ?_   -- t85 := move t0 [if 4=false]
        refine WL.goff rfl rfl (by decide) ?_   -- t86 := call len(t85) : 33 [if 4=false]
        refine WL.goff rfl rfl (by decide) ?_   -- t87 := move t11 [if 4=false]
        refine WL.goff rfl rfl (by decide) ?_   -- t88 := binOp sub 3 t86 t87 3 [if 4=false]
        refine WL.goff rfl rfl (by decide) ?_   -- t89 := binOp gtr 3 t84 t88 3 [if 4=false]
        refine WL.val (Y.pick rfl rfl) (by decide) ?_   -- t90 := pick t83 c(true) t89
        refine WL.call Tryd.func62 rfl rfl rfl (drefuse_any g6 _ (a2 : Int) e5 _ 9 _ hB6) (by simp) ?_; rintro v91 w16 hR16   -- t91 := call F62(t6, t90, c(9:i64)) : 123,4,23
        obtain ⟨rfl, hB6, hc16⟩ := hR16
        have hz16 := hc16.size
        have hE := hE.step hc16 (fun k h => by have h : k = g6 := h; omega)
        have hv := hv0.ext hE
        have hu := hu0.ext hE
        have hO := hO.chg hc16 (fun k hk h => (hof k hk).2 h)
        refine WL.nil ?_
        exact ⟨refE e5 true 9, (by repeat (first | exact Fr.le.nil | refine Fr.le.cons rfl ?_)), hB6, by rw [refE]; exact ite_iff (and_congr Iff.rfl ⟨fun _ => .inl (by omega), fun _ => rfl⟩), hO, hE⟩
      · -- t83 = F
        refine WL.gval rfl rfl (Y.move rfl) (by decide) ?_   -- t84 := move t10 [if 4=false]
        refine WL.gval rfl rfl (Y.move rfl) (by decide) ?_   -- t85 := move t0 [if 4=false]
        refine WL.gval rfl rfl (Y.len_slice Tryd.underlying33 rfl) (by decide) ?_   -- t86 := call len(t85) : 33 [if 4=false]
        refine WL.gval rfl rfl (Y.move rfl) (by decide) ?_   -- t87 := move t11 [if 4=false]
        refine WL.gval rfl rfl (Y.sub rfl rfl ⟨by omega, by omega⟩) (by decide) ?_   -- t88 := binOp sub 3 t86 t87 3 [if 4=false]
        refine WL.gval rfl rfl (Y.gtr rfl rfl) (by decide) ?_   -- t89 := binOp gtr 3 t84 t88 3 [if 4=false]
        refine WL.val (Y.pick rfl rfl) (by decide) ?_   -- t90 := pick t83 c(true) t89
        refine WL.call Tryd.func62 rfl rfl rfl (drefuse_any g6 _ (a2 : Int) e5 _ 9 _ hB6) (by simp) ?_; rintro v91 w17 hR17   -- t91 := call F62(t6, t90, c(9:i64)) : 123,4,23
        obtain ⟨rfl, hB6, hc17⟩ := hR17
        have hz17 := hc17.size
        have hE := hE.step hc17 (fun k h => by have h : k = g6 := h; omega)
        have hv := hv0.ext hE
        have hu := hu0.ext hE
        have hO := hO.chg hc17 (fun k hk h => (hof k hk).2 h)
        refine WL.nil ?_
        exact ⟨refE e5 _ 9, (by repeat (first | exact Fr.le.nil | refine Fr.le.cons rfl ?_)), hB6, by rw [refE]; exact ite_iff (and_congr Iff.rfl (by rw [decide_eq_true_iff]; omega)), hO, hE⟩
    rintro u w18 hj18
    clear hE hB6 hv hu hO
    obtain ⟨e6, he6_⟩ : ∃ e6, e6 = u := ⟨_, rfl⟩
    obtain ⟨hB6, hye, hO, hE⟩ := hj18
    rw [← he6_] at hB6 hye
    have hv := hv0.ext hE
    have hu := hu0.ext hE
    have hzE := hE.size
    have hg6l := hB6.lt
    have hm2 : ¬ mm % 2 = 0 := by omega
    have hod : e6 = 0 → gnum d at_ = .ok (mm, a1) ∧ ¬ (mm / 2 = 0 ∨ size - out.length < mm / 2) ∧ gnum d a1 = .ok (k_, a2) ∧ ¬ (base.length < k_ ∨ base.length - k_ < mm / 2) := by
      intro h
      rw [h] at hye
      have h5 : e5 = 0 ∧ ¬ (base.length < k_ ∨ base.length - k_ < mm / 2) := by
        by_cases hq : e5 = 0 ∧ (base.length < k_ ∨ base.length - k_ < mm / 2)
        · rw [if_pos hq] at hye; exact absurd hye (by decide)
        · rw [if_neg hq] at hye; exact ⟨hye.symm, fun x => hq ⟨hye.symm, x⟩⟩
      rw [hue] at hN15
      rcases hN15 with ⟨hz, _, hg2⟩ | ⟨_, hz, _⟩ | ⟨hz, hz2, _⟩
      · have h1 : e1 = 0 ∧ ¬ (mm / 2 = 0 ∨ size - out.length < mm / 2) := by
          by_cases hq : e1 = 0 ∧ (mm / 2 = 0 ∨ size - out.length < mm / 2)
          · rw [if_pos hq] at hz; exact absurd hz (by decide)
          · rw [if_neg hq] at hz; exact ⟨hz, fun x => hq ⟨hz, x⟩⟩
        rcases hN7 with ⟨_, _, hg⟩ | ⟨_, hx, _⟩ | ⟨hx, _⟩
        · exact ⟨hg, h1.2, hg2, h5.2⟩
        · exact absurd h1.1 hx
        · exact absurd rfl hx
      · exact absurd h5.1 hz
      · exact absurd (hz2.symm.trans h5.1) hz
    have hbad : e6 ≠ 0 → apB base d = ([], e6) := by
      intro h
      rw [hres]
      rw [hue] at hN15
      rcases hN7 with ⟨_, he, hg⟩ | ⟨_, he, hg, _⟩ | ⟨hx, _⟩
      · by_cases hq : (mm / 2 = 0 ∨ size - out.length < mm / 2)
        · rw [if_pos ⟨he, hq⟩] at hN15
          rcases hN15 with ⟨hx, _⟩ | ⟨hx, _⟩ | ⟨_, h5, _⟩
          · exact absurd hx (by decide)
          · exact absurd hx (by decide)
          · rw [h5, if_neg (fun x => absurd x.1 (by decide))] at hye
            rw [apE_bad (by omega) hg hq, hye]
        · rw [if_neg (fun x => hq x.2), he] at hN15
          rcases hN15 with ⟨_, h5, hg2⟩ | ⟨_, h5, hg2, _⟩ | ⟨hx, _⟩
          · by_cases hq2 : (base.length < k_ ∨ base.length - k_ < mm / 2)
            · rw [if_pos ⟨h5, hq2⟩] at hye
              rw [apE_rng (by omega) hg hq hm2 hg2 hq2, hye]
            · rw [if_neg (fun x => hq2 x.2)] at hye
              exact absurd (hye.trans h5) h
          · rw [if_neg (fun x => h5 x.1)] at hye
            rw [apE_num2 (by omega) hg hq hm2 hg2, hye]
          · exact absurd rfl hx
      · rw [if_neg (fun x => he x.1)] at hN15
        rcases hN15 with ⟨hx, _⟩ | ⟨hx, _⟩ | ⟨_, h5, _⟩
        · exact absurd hx he
        · exact absurd hx he
        · rw [h5, if_neg (fun x => he x.1)] at hye
          rw [apE_num (by omega) hg, hye]
      · exact absurd rfl hx
    refine CW.seq fun K25 hK25 => ?_
    refine CW.region ?_   -- region 19
    refine WL.val (Y.fieldAddr fo_deltareader2 rfl) (by decide) ?_   -- t92 := fieldAddr 123 t6 2
    refine WL.val (Y.load1 Tryd.underlying23 rfl hB6.mem.deltareader2 rfl) (by decide) ?_   -- t93 := load 23 t92
    refine WL.val (Y.eql rfl rfl) (by decide) ?_   -- t94 := binOp eql 23 t93 c(0:i64) 23
    refine WL.nil ?_
    refine hK25 _ _ ?_; try clear hK25 K25
    first | refine CW.condD rfl (fun ht26 => ?_) (fun ht26 => ?_) | refine CW.condND rfl (fun ht26 => ?_) (fun ht26 => ?_) | refine CW.condN rfl (fun ht26 => ?_) (fun ht26 => ?_) | refine CW.cond rfl (fun ht26 => ?_) (fun ht26 => ?_)
    · -- then
      obtain ⟨hok, hnb, hok2, hnr⟩ := hod (by assumption); obtain ⟨b1, rfl, hmb⟩ := hu.mem.1 (by omega); refine CW.region ?_
      refine WL.val (Y.move rfl) (by decide) ?_   -- t95 := move t8
      refine WL.val (Y.move rfl) (by decide) ?_   -- t96 := move t0
      refine WL.val (Y.move rfl) (by decide) ?_   -- t97 := move t11
      refine WL.val (Y.move rfl) (by decide) ?_   -- t98 := move t11
      refine WL.val (Y.move rfl) (by decide) ?_   -- t99 := move t10
      refine WL.val (Y.add rfl rfl ⟨by omega, by omega⟩) (by decide) ?_   -- t100 := binOp add 3 t98 t99 3
      refine WL.val (Y.slice_slI (i := k_) (j := k_ + mm / 2) Tryd.underlying33 rfl rfl rfl sz0_uint8 (by omega) (by omega) (by omega) (by omega)) (by decide) ?_   -- t101 := slice 33 t96 t97 t100 none
      refine WL.st (St.app (xs := out) (ys := (base.drop k_).take (k_ + mm / 2 - k_)) Tryd.underlying33 Tryd.underlying33 ai_u8 rfl rfl hO (Src.cut hu (by omega) (by omega)) (by omega)) (by decide) fun v102 w19 hR19 => ?_   -- t102 := call append(t95, t101) : 33,33
      obtain ⟨hO19, hc19, hf19⟩ := hR19
      have hz19 := hc19.size
      have hE := hE.step hc19 (fun k h => (hof k h).1)
      have hB6 := hB6.chg hc19 (fun h => (hof _ h).2 rfl)
      rw [Nat.add_sub_cancel_left] at hO19
      have hg6l := hB6.lt
      have hf19 : ∀ k, v102.ownBlock = some k → w.heap.size ≤ k ∧ k ≠ g6 := by
        rcases hf19 with h_ | h_
        · intro k hk; rw [h_] at hk; exact hof k hk
        · intro k hk; have := h_ k hk; exact ⟨by omega, by omega⟩
      refine WL.val (Y.assign rfl) (by decide) ?_   -- t8 := assign t102
      refine WL.nil ?_
      have he6 : e6 = 0 := by assumption
      have hlen : ((base.drop k_).take (mm / 2)).length = mm / 2 := by rw [List.length_take, List.length_drop]; omega
      refine ⟨(a2, e6, f, v102, out ++ (base.drop k_).take (mm / 2)), by show (if e6 = 0 then f + 1 else 0) < (if (0 : Int) = 0 then f + 1 + 1 else 0); rw [if_pos he6, if_pos rfl]; omega, (by repeat (first | exact Fr.le.nil | refine Fr.le.cons rfl ?_)), ?_, by show a2 ≤ d.length; omega, fun _ => ?_, ?_, hB6, hO19, hf19, hE⟩
      · show apB base d = if e6 ≠ 0 then _ else _
        rw [if_neg (by simp [he6]), hres, ap_copy (by omega) hok hnb hm2 hok2 hnr]
      · show size < (out ++ _).length + f ∧ (out ++ _).length ≤ size ∧ size ≤ 4096
        rw [List.length_append, hlen]; omega
      · show (out ++ _).length ≤ 4096
        rw [List.length_append, hlen]; omega
    -- else
    refine CW.skip ?_
    refine ⟨(a2, e6, f + 1, .slice Ao mo co, out), by show (if e6 = 0 then f + 1 + 1 else 0) < (if (0 : Int) = 0 then f + 1 + 1 else 0); rw [if_neg (by assumption), if_pos rfl]; omega, (by repeat (first | exact Fr.le.nil | refine Fr.le.cons rfl ?_)), ?_, hle15, (fun h => absurd h (by assumption)), hol, hB6, hO, hof, hE⟩
    show apB base d = if e6 ≠ 0 then _ else _
    rw [if_pos (by assumption)]
    exact hbad (by assumption)
  -- else
  refine CW.exit ?_   -- exit 0
  refine hK11 _ _ ?_; try clear hK11 K11
  refine CW.seq fun K27 hK27 => ?_
  refine CW.region ?_   -- region 21
  refine WL.val (Y.fieldAddr fo_deltareader1 rfl) (by decide) ?_   -- t103 := fieldAddr 123 t6 1
  refine WL.val (Y.load1 Tryd.underlying3 rfl hB6.mem.deltareader1 rfl) (by decide) ?_   -- t104 := load 3 t103
  refine WL.val (Y.move rfl) (by decide) ?_   -- t105 := move t1
  refine WL.val (Y.len_slice Tryd.underlying33 rfl) (by decide) ?_   -- t106 := call len(t105) : 33
  refine WL.val (Y.neq rfl rfl) (by decide) ?_   -- t107 := binOp neq 3 t104 t106 3
  refine WL.call Tryd.func62 rfl rfl rfl (drefuse_any g6 _ (at_ : Int) e _ 7 _ hB6) (by simp) ?_; rintro v108 w20 hR20   -- t108 := call F62(t6, t107, c(7:i64)) : 123,4,23
  obtain ⟨rfl, hB6, hc20⟩ := hR20
  have hz20 := hc20.size
  have hE := hE.step hc20 (fun k h => by have h : k = g6 := h; omega)
  have hv := hv0.ext hE
  have hu := hu0.ext hE
  have hO := hO.chg hc20 (fun k hk h => (hof k hk).2 h)
  obtain ⟨e7, he7⟩ : ∃ e7, e7 = refE e (decide ((at_ : Int) ≠ (n : Int))) 7 := ⟨_, rfl⟩
  rw [← he7] at hB6
  have hfin : apB base d = if e7 ≠ 0 then ([], e7) else (out, 0) := by
    by_cases he : e = 0
    · subst he
      rw [hres, if_neg (by simp), apL_done (by omega), he7]
      unfold apEnd
      rw [if_neg (by simp)]
      by_cases ha : at_ = d.length
      · rw [if_neg (by simpa using ha), decide_eq_false (by omega), refE_no, if_neg (by simp)]
      · rw [if_pos ha, decide_eq_true (by omega), refE_yes, if_pos (by decide)]
    · rw [hres, if_pos he, he7, refE_ne he, if_pos he]
  refine WL.nil ?_
  refine hK27 _ _ ?_; try clear hK27 K27
  refine CW.seq fun K28 hK28 => ?_
  refine CW.seq fun K29 hK29 => ?_
  refine CW.region ?_   -- region 22
  refine WL.val (Y.fieldAddr fo_deltareader2 rfl) (by decide) ?_   -- t109 := fieldAddr 123 t6 2
  refine WL.val (Y.load1 Tryd.underlying23 rfl hB6.mem.deltareader2 rfl) (by decide) ?_   -- t110 := load 23 t109
  refine WL.val (Y.neq rfl rfl) (by decide) ?_   -- t111 := binOp neq 23 t110 c(0:i64) 23
  refine WL.nil ?_
  refine hK29 _ _ ?_; try clear hK29 K29
  first | refine CW.condD rfl (fun ht30 => ?_) (fun ht30 => ?_) | refine CW.condND rfl (fun ht30 => ?_) (fun ht30 => ?_) | refine CW.condN rfl (fun ht30 => ?_) (fun ht30 => ?_) | refine CW.cond rfl (fun ht30 => ?_) (fun ht30 => ?_)
  · -- then
    refine CW.seq fun K31 hK31 => ?_
    refine CW.quiet (fun wq => Ext w20 wq) (by kernel_rfl) (by kernel_rfl) Chg.drew ?_
    refine QL.val (fun wq hq => Y.fieldAddr fo_deltareader2 rfl) (by decide) ?_   -- t112 := fieldAddr 123 t6 2
    refine QL.val (fun wq hq => Y.load1 Tryd.underlying23 rfl (hB6.ext hq).mem.deltareader2 rfl) (by decide) ?_   -- t113 := load 23 t112
    refine QL.val (fun wq hq => Y.assign rfl) (by decide) ?_   -- t4 := assign c(nilslice)
    refine QL.val (fun wq hq => Y.assign rfl) (by decide) ?_   -- t5 := assign t113
    refine QL.nil fun w21 hx21 => ?_
    have hz21 := hx21.size
    have hE := hE.thenExt hx21
    have hB6 := hB6.ext hx21
    refine hK31 _ _ ?_; try clear hK31 K31
    refine CW.ret ⟨_, rfl, ?_⟩
    exact ⟨_, by rw [hfin, if_pos (by assumption)], by rw [hfin, if_pos (by assumption)]; exact Own.nil, (fun k hk => by cases hk), hE⟩
  -- else
  refine CW.skip ?_
  refine hK28 _ _ ?_; try clear hK28 K28
  refine CW.seq fun K32 hK32 => ?_
  refine CW.region ?_   -- region 24
  refine WL.val (Y.move rfl) (by decide) ?_   -- t114 := move t8
  refine WL.val (Y.assign rfl) (by decide) ?_   -- t4 := assign t114
  refine WL.val (Y.assign rfl) (by decide) ?_   -- t5 := assign c(0:i64)
  refine WL.nil ?_
  refine hK32 _ _ ?_; try clear hK32 K32
  refine CW.ret ⟨_, rfl, ?_⟩
  exact ⟨_, by rw [hfin, if_neg (by assumption)], by rw [hfin, if_neg (by assumption)]; exact hO, (fun k hk => (hof k hk).1), hE⟩
end Go.Proofs.YtoncdfpohdchgaaDoor
