/- The plain law of a commit's bytes. No condition; no program. -/
import Derived.Test.YtoncdfpohdchgaaDoorPl
set_option linter.unusedSimpArgs false
set_option linter.unusedVariables false
namespace Go.Pl
open Go.Fw
/-- A number's bytes. -/
def vi (n : Nat) : List UInt8 := if n < 128 then [UInt8.ofNat n] else UInt8.ofNat (n % 128 + 128) :: vi (n / 128)
termination_by n
theorem vi_lt {n : Nat} (h : n < 128) : vi n = [UInt8.ofNat n] := by rw [vi, if_pos h]
theorem vi_ge {n : Nat} (h : ¬ n < 128) : vi n = UInt8.ofNat (n % 128 + 128) :: vi (n / 128) := by rw [vi, if_neg h]
theorem vi_len : ∀ (k n : Nat), n < 128 ^ (k + 1) → (vi n).length ≤ k + 1
  | k, n, h => by
    by_cases h1 : n < 128
    · rw [vi_lt h1]; simp
    · rw [vi_ge h1]
      cases k with
      | zero => simp at h; omega
      | succ k =>
        have h2 : n / 128 < 128 ^ (k + 1) := by
          rw [Nat.pow_succ] at h
          exact Nat.div_lt_of_lt_mul (by rw [Nat.mul_comm]; exact h)
        have := vi_len k (n / 128) h2
        simp only [List.length_cons]
        omega
theorem vi_len9 {n : Nat} (h : n < 9223372036854775808) : (vi n).length ≤ 9 := vi_len 8 n (by omega)
theorem vi_pos (n : Nat) : 0 < (vi n).length := by rw [vi]; split <;> simp
def numB (n : Int) : List UInt8 := if n < 0 then [] else vi n.toNat
theorem numB_len {n : Int} (h : n < 9223372036854775808) : (numB n).length ≤ 9 := by
  unfold numB
  split
  · simp
  · exact vi_len9 (by omega)
theorem numB_nat (n : Nat) : numB (n : Int) = vi n := by rw [numB, if_neg (by omega)]; rfl
def textB (s : List UInt8) : List UInt8 := vi s.length ++ s
def flagI (x : OpD) : Int := (if x.kind = 2 then 1 else 0) + (if x.left = true then 2 else 0) + (if x.at_.own = true then 4 else if rootB x.at_ = true then 0 else 8)
def opB (x : OpD) : List UInt8 := (if x.at_.own = true then numB (flagI x) ++ numB x.at_.n else if rootB x.at_ = true then numB (flagI x) else numB (flagI x) ++ x.at_.c.1 ++ numB x.at_.n) ++ (if x.kind = 1 then [x.byte] else [])
theorem flagI_range (x : OpD) : 0 ≤ flagI x ∧ flagI x ≤ 11 := by
  unfold flagI
  split <;> split <;> split <;> (try split) <;> omega
theorem opB_len {x : OpD} (h : x.at_.n < 9223372036854775808) : (opB x).length ≤ 51 := by
  have h1 := numB_len (n := flagI x) (by have := flagI_range x; omega)
  have h2 := numB_len h
  have h3 := x.at_.c.2
  unfold opB
  by_cases a : x.at_.own = true <;> by_cases b : rootB x.at_ = true <;> by_cases c : x.kind = 1 <;> simp only [a, b, c, if_true, if_false, List.length_append, List.length_cons, List.length_nil, h3] <;> (try simp only [List.length_append, List.length_cons, List.length_nil, h3, Bool.false_eq_true, if_false]) <;> omega
def comB (c : ComD) : List UInt8 := vi c.parents.length ++ (c.parents.map (·.1)).flatten ++ textB c.author.toList ++ textB c.note.toList ++ vi c.ops.length ++ (c.ops.map opB).flatten
theorem flat_take_succ {α β : Type} {l : List α} {f : α → List β} {i : Nat} {x : α} (h : l[i]? = some x) : ((l.take (i + 1)).map f).flatten = ((l.take i).map f).flatten ++ f x := by
  rw [take_succ h]; simp
theorem flat_len {α β : Type} {f : α → List β} {k : Nat} : ∀ {l : List α}, (∀ x ∈ l, (f x).length ≤ k) → (l.map f).flatten.length ≤ l.length * k
  | [], _ => by simp
  | x :: l, h => by
    have h1 := h x (by simp)
    have h2 := flat_len (f := f) (k := k) (l := l) fun y hy => h y (by simp [hy])
    simp only [List.map_cons, List.flatten_cons, List.length_append, List.length_cons, Nat.succ_mul]
    omega
theorem opsErrFrom_zero (l : List OpD) : ∀ (n i : Nat), opsErrFrom l i n = 0 → ∀ j, i ≤ j → j < i + n → rightI l (j + 1) = 0
  | 0, i, _, j, h1, h2 => by omega
  | n + 1, i, h, j, h1, h2 => by
    rw [opsErrFrom] at h
    split at h
    · rename_i hne; exact absurd h hne
    · rename_i hne
      simp only [ne_eq, Decidable.not_not] at hne
      rcases Nat.eq_or_lt_of_le h1 with rfl | h1
      · exact hne
      · exact opsErrFrom_zero l n (i + 1) h j (by omega) (by omega)
/-- What a commit that may be is like. -/
structure MayOk (c : ComD) : Prop where
  parents : c.parents.length ≤ 8
  rising : risingB c.parents = true
  author : nameB c.author.toList = true
  note : c.note.size ≤ 200
  ops : c.ops.length ≤ 2000
  right : ∀ j, j < c.ops.length → rightI c.ops ((j : Int) + 1) = 0
theorem mayI_ok {c : ComD} (h : mayI c = 0) : MayOk c := by
  unfold mayI at h
  split at h
  · simp at h
  split at h
  · simp at h
  split at h
  · simp at h
  split at h
  · simp at h
  split at h
  · simp at h
  rename_i h1 h2 h3 h4 h5
  exact ⟨by omega, by simpa using h2, by simpa using h3, by omega, by omega, fun j hj => opsErrFrom_zero c.ops _ 0 h j (by omega) (by omega)⟩
theorem mayOk_i {c : ComD} (h : MayOk c) : mayI c = 0 := by
  have h1 := h.parents
  have h4 := h.note
  have h5 := h.ops
  rw [mayI, if_neg (by omega), if_neg (by simp [h.rising]), if_neg (by simp [h.author]), if_neg (by omega), if_neg (by omega)]
  exact opsErr_end h.right
theorem MayOk.name {c : ComD} (h : MayOk c) : c.author.size ≤ 24 := by
  have := h.author
  simp only [nameB, Bool.and_eq_true, decide_eq_true_eq, toList_length] at this
  omega
theorem MayOk.right' {c : ComD} (h : MayOk c) {j : Nat} {x : OpD} (hx : c.ops[j]? = some x) : rightX c.ops ((j : Int) + 1) x = 0 := by
  have hj := (List.getElem?_eq_some_iff.1 hx).1
  have := h.right j hj
  rwa [rightI_of (by omega) (by rw [show ((j : Int) + 1 - 1).toNat = j by omega]; exact hx)] at this
theorem rightX_zero {l : List OpD} {i : Int} {x : OpD} (h : rightX l i x = 0) : refB x.at_ = true ∧ ¬ (x.kind = 1 ∧ x.left = true ∧ rootB x.at_ = true) ∧ ¬ (x.kind = 2 ∧ (x.left = true ∨ (x.byte.toNat : Int) ≠ 0 ∨ rootB x.at_ = true)) ∧ (x.kind = 1 ∨ x.kind = 2) ∧ (x.at_.own = true → x.at_.n < i ∧ kindAt l (x.at_.n - 1).toNat = 1) := by
  unfold rightX at h
  split at h
  · simp at h
  split at h
  · simp at h
  split at h
  · simp at h
  split at h
  · simp at h
  split at h
  · simp at h
  rename_i h1 h2 h3 h4 h5
  refine ⟨by simpa using h1, h2, h3, by omega, fun ho => ?_⟩
  have h6 := not_or.1 (fun e => h5 ⟨ho, e⟩)
  exact ⟨by omega, Decidable.not_not.1 h6.2⟩
theorem MayOk.n {c : ComD} (h : MayOk c) {x : OpD} (hx : x ∈ c.ops) : 0 ≤ x.at_.n ∧ x.at_.n ≤ 2000 := by
  obtain ⟨j, hj⟩ := List.mem_iff_getElem?.1 hx
  have hjl := (List.getElem?_eq_some_iff.1 hj).1
  have ho := h.ops
  obtain ⟨h1, _, _, _, h5⟩ := rightX_zero (h.right' hj)
  unfold refB at h1
  split at h1
  · rename_i hown
    have := (h5 hown).1
    simp at h1
    omega
  · simp only [Bool.or_eq_true, root_iff, Bool.and_eq_true, decide_eq_true_eq] at h1
    rcases h1 with h1 | h1 <;> omega
end Go.Pl
namespace Go.Pl
open Go.Fw
/-! ## Bytes that are read -/
/-- A number that stands there: what it is, and how many bytes it has. -/
def gn : Nat → Nat → List UInt8 → Except Int (Nat × Nat)
  | _, _, [] => .error 8
  | i, s, x :: r => if 128 ≤ x.toNat ∧ i + 1 = 9 then .error 9 else if x.toNat = 0 ∧ 0 < i then .error 7 else
    if 128 ≤ x.toNat then gn (i + 1) (s + x.toNat % 128 * 128 ^ i) r else .ok (s + x.toNat % 128 * 128 ^ i, i + 1)
def gnum (bs : List UInt8) (at_ : Nat) : Except Int (Nat × Nat) := match gn 0 0 (bs.drop at_) with
  | .error e => .error e
  | .ok (n, k) => .ok (n, at_ + k)
/-- A text that stands there. -/
def gtext (bs : List UInt8) (at_ : Nat) : Except Int (List UInt8 × Nat) := match gnum bs at_ with
  | .error e => .error e
  | .ok (n, nx) => if 131072 < n then .error 3 else if bs.length < nx + n then .error 8 else .ok ((bs.drop nx).take n, nx + n)
theorem gn_len : ∀ (l : List UInt8) (i s n k : Nat), gn i s l = .ok (n, k) → i < k ∧ k ≤ i + l.length
  | [], i, s, n, k, h => by cases h
  | x :: r, i, s, n, k, h => by
    rw [gn] at h
    split at h
    · cases h
    split at h
    · cases h
    split at h
    · have := gn_len r _ _ _ _ h
      simp only [List.length_cons]; omega
    · injection h with h; injection h with h1 h2
      simp only [List.length_cons]; omega
theorem gnum_len {bs : List UInt8} {at_ n nx : Nat} (h : gnum bs at_ = .ok (n, nx)) (ha : at_ ≤ bs.length) : at_ < nx ∧ nx ≤ bs.length := by
  unfold gnum at h
  split at h
  · cases h
  · rename_i n' k hk
    injection h with h; injection h with h1 h2
    have := gn_len _ _ _ _ _ hk
    rw [List.length_drop] at this
    omega
theorem gtext_len {bs : List UInt8} {at_ nx : Nat} {t : List UInt8} (h : gtext bs at_ = .ok (t, nx)) (ha : at_ ≤ bs.length) : at_ < nx ∧ nx ≤ bs.length ∧ t.length ≤ 131072 := by
  unfold gtext at h
  split at h
  · cases h
  · rename_i n k hk
    have := gnum_len hk ha
    split at h
    · cases h
    split at h
    · cases h
    injection h with h; injection h with h1 h2
    subst h1
    rw [List.length_take, List.length_drop]
    omega
end Go.Pl
namespace Go.Pl
open Go.Fw
def gE (bs : List UInt8) (at_ : Nat) : Int := match gnum bs at_ with | .error e => e | .ok _ => 0
def gN (bs : List UInt8) (at_ : Nat) : Int := match gnum bs at_ with | .error _ => 0 | .ok (n, _) => (n : Int)
def gX (bs : List UInt8) (at_ : Nat) : Int := match gnum bs at_ with | .error _ => 0 | .ok (_, x) => (x : Int)
theorem gn_err : ∀ (l : List UInt8) (i s : Nat) (e : Int), gn i s l = .error e → e ≠ 0
  | [], i, s, e, h => by injection h with h; omega
  | x :: r, i, s, e, h => by
    rw [gn] at h
    split at h
    · injection h with h; omega
    split at h
    · injection h with h; omega
    split at h
    · exact gn_err r _ _ _ h
    · cases h
theorem gnum_err {bs : List UInt8} {at_ : Nat} {e : Int} (h : gnum bs at_ = .error e) : e ≠ 0 := by
  unfold gnum at h
  split at h
  · rename_i e' he; injection h with h; subst h; exact gn_err _ _ _ _ he
  · cases h
theorem gE_zero {bs : List UInt8} {at_ : Nat} (h : gE bs at_ = 0) : ∃ n nx, gnum bs at_ = .ok (n, nx) ∧ gN bs at_ = (n : Int) ∧ gX bs at_ = (nx : Int) := by
  unfold gE at h
  split at h
  · rename_i e he; exact absurd h (gnum_err he)
  · rename_i p hp
    exact ⟨p.1, p.2, hp, by simp only [gN, hp], by simp only [gX, hp]⟩
theorem gE_ne {bs : List UInt8} {at_ : Nat} (h : gE bs at_ ≠ 0) : gnum bs at_ = .error (gE bs at_) ∧ gN bs at_ = 0 ∧ gX bs at_ = 0 := by
  cases hg : gnum bs at_ with
  | error e => simp only [gE, gN, gX, hg]; exact ⟨trivial, trivial, trivial⟩
  | ok p => simp only [gE, hg] at h; exact absurd rfl h
def gtE (bs : List UInt8) (at_ : Nat) : Int := match gtext bs at_ with | .error e => e | .ok _ => 0
def gtT (bs : List UInt8) (at_ : Nat) : List UInt8 := match gtext bs at_ with | .error _ => [] | .ok (t, _) => t
def gtX (bs : List UInt8) (at_ : Nat) : Int := match gtext bs at_ with | .error _ => 0 | .ok (_, x) => (x : Int)
theorem gtext_err {bs : List UInt8} {at_ : Nat} {e : Int} (h : gtext bs at_ = .error e) : e ≠ 0 := by
  unfold gtext at h
  split at h
  · rename_i e' he; injection h with h; subst h; exact gnum_err he
  · split at h
    · injection h with h; omega
    split at h
    · injection h with h; omega
    · cases h
theorem gtE_zero {bs : List UInt8} {at_ : Nat} (h : gtE bs at_ = 0) : ∃ t nx, gtext bs at_ = .ok (t, nx) ∧ gtT bs at_ = t ∧ gtX bs at_ = (nx : Int) := by
  unfold gtE at h
  split at h
  · rename_i e he; exact absurd h (gtext_err he)
  · rename_i p hp
    exact ⟨p.1, p.2, hp, by simp only [gtT, hp], by simp only [gtX, hp]⟩
theorem gtE_ne {bs : List UInt8} {at_ : Nat} (h : gtE bs at_ ≠ 0) : gtext bs at_ = .error (gtE bs at_) := by
  cases hg : gtext bs at_ with
  | error e => simp only [gtE, hg]
  | ok p => simp only [gtE, hg] at h; exact absurd rfl h
theorem gt_of_error {bs : List UInt8} {at_ : Nat} {e : Int} (h : gtext bs at_ = .error e) : gtE bs at_ = e ∧ gtT bs at_ = [] ∧ gtX bs at_ = 0 := by simp only [gtE, gtT, gtX, h]; exact ⟨trivial, trivial, trivial⟩
theorem gt_of_ok {bs t : List UInt8} {at_ nx : Nat} (h : gtext bs at_ = .ok (t, nx)) : gtE bs at_ = 0 ∧ gtT bs at_ = t ∧ gtX bs at_ = (nx : Int) := by simp only [gtE, gtT, gtX, h]; exact ⟨trivial, trivial, trivial⟩
/-- So many bytes that stand there. -/
def gbytes (bs : List UInt8) (at_ n : Nat) : Except Int (List UInt8 × Nat) := if bs.length < at_ + n then .error 8 else .ok ((bs.drop at_).take n, at_ + n)
end Go.Pl
namespace Go.Pl
theorem gtext_bad {bs : List UInt8} {at_ : Nat} {e : Int} (h : gnum bs at_ = .error e) : gtext bs at_ = .error e := by unfold gtext; rw [h]
theorem gtext_num {bs : List UInt8} {at_ n nx : Nat} (h : gnum bs at_ = .ok (n, nx)) : gtext bs at_ = if 131072 < n then .error 3 else if bs.length < nx + n then .error 8 else .ok ((bs.drop nx).take n, nx + n) := by unfold gtext; rw [h]
end Go.Pl
namespace Go.Pl
open Go.Fw
/-- A digest that stands there. -/
def gdig (bs : List UInt8) (at_ : Nat) : Except Int (Dig × Nat) := if h : at_ + 32 ≤ bs.length then .ok (⟨(bs.drop at_).take 32, by rw [List.length_take, List.length_drop]; omega⟩, at_ + 32) else .error 8
/-- The digest of an operation whose flags are n. -/
def gopD (bs : List UInt8) (n at_ : Nat) : Except Int (Dig × Nat) := if 8 ≤ n then gdig bs at_ else .ok (Dig.zero, at_)
def gopN (bs : List UInt8) (n at_ : Nat) : Except Int (Nat × Nat) := if 4 ≤ n then (match gnum bs at_ with
  | .error e => .error e
  | .ok (k, a) => if k = 0 then .error 7 else .ok (k, a)) else .ok (0, at_)
def gopB (bs : List UInt8) (n at_ : Nat) : Except Int (UInt8 × Nat) := if n % 2 = 0 then (match bs[at_]? with
  | some b => .ok (b, at_ + 1)
  | none => .error 8) else .ok (0, at_)
/-- An operation that stands there. -/
def gop (bs : List UInt8) (at_ : Nat) : Except Int (OpD × Nat) := match gnum bs at_ with
  | .error e => .error e
  | .ok (n, a1) => if 12 ≤ n then .error 7 else match gopD bs n a1 with
    | .error e => .error e
    | .ok (d, a2) => match gopN bs n a2 with
      | .error e => .error e
      | .ok (k, a3) => match gopB bs n a3 with
        | .error e => .error e
        | .ok (b, a4) => .ok (⟨if n % 2 = 0 then 1 else 2, decide (n / 2 % 2 = 1), ⟨decide (n / 4 = 1), d, (k : Int)⟩, b⟩, a4)
/-- So many that stand there, one behind the other. -/
def gmany {α : Type} (f : List UInt8 → Nat → Except Int (α × Nat)) (bs : List UInt8) : Nat → Nat → Except Int (List α × Nat)
  | 0, at_ => .ok ([], at_)
  | k + 1, at_ => match f bs at_ with
    | .error e => .error e
    | .ok (x, a) => match gmany f bs k a with
      | .error e => .error e
      | .ok (xs, a') => .ok (x :: xs, a')
/-- A commit that stands there from the beginning on, and where it ends. -/
def gcom (b : List UInt8) : Except Int (ComD × Nat) := match gnum b 0 with
  | .error e => .error e
  | .ok (n, a1) => if 8 < n then .error 4 else match gmany gdig b n a1 with
    | .error e => .error e
    | .ok (ps, a2) => match gtext b a2 with
      | .error e => .error e
      | .ok (au, a3) => match gtext b a3 with
        | .error e => .error e
        | .ok (no, a4) => match gnum b a4 with
          | .error e => .error e
          | .ok (m, a5) => if 2000 < m then .error 4 else match gmany gop b m a5 with
            | .error e => .error e
            | .ok (ops, a6) => .ok (⟨ps, bs au, bs no, ops⟩, a6)
/-- The bytes are a commit's, or why not. -/
def decI (b : List UInt8) : Except Int ComD := match gcom b with
  | .error e => .error e
  | .ok (c, a) => if a ≠ b.length then .error 7 else if mayI c ≠ 0 then .error (mayI c) else .ok c
end Go.Pl
