/- The plain law: what the functions compute, on Lean's data. No condition; no program. -/
import Derived.Test.YtoncdfpohdchgaaDoorDt
import Derived.Lib.Bytealg
set_option linter.unusedSimpArgs false
set_option linter.unusedVariables false
namespace Go.Pl
open Go.Fw
def rootB (r : RefD) : Bool := decide (r = RefD.zero)
def refB (r : RefD) : Bool := if r.own then decide (r.c = Dig.zero) && decide (0 < r.n) else rootB r || (decide (0 < r.n) && decide (r.n ≤ 2000))
def refKind (r : RefD) : Int := if r.own then (if r.c ≠ Dig.zero ∨ r.n < 1 then 3 else 1) else if 1 ≤ r.n ∧ r.n ≤ 2000 then 2 else if r.n = 0 ∧ r.c = Dig.zero then 0 else 3
/-- Which digest comes first. -/
def lessB (a b : Dig) : Bool := Op.bytesLess a.1 b.1
theorem bytesLess_self : ∀ l : List UInt8, Op.bytesLess l l = false
  | [] => rfl
  | a :: l => by simp [Op.bytesLess, bytesLess_self l]
theorem take_succ {α : Type} {l : List α} {i : Nat} {x : α} (h : l[i]? = some x) : l.take (i + 1) = l.take i ++ [x] := by
  rw [List.take_add_one, h]; rfl
/-- Where two lists part, the bytes that part tell. -/
theorem bytesLess_at : ∀ {a b : List UInt8} {i : Nat} {x y : UInt8}, a.take i = b.take i → a[i]? = some x → b[i]? = some y → x ≠ y → Op.bytesLess a b = decide (x < y)
  | x' :: a, y' :: b, 0, x, y, _, hx, hy, hne => by
    simp at hx hy
    subst hx; subst hy
    simp [Op.bytesLess, hne]
  | x' :: a, y' :: b, i + 1, x, y, ht, hx, hy, hne => by
    simp at hx hy
    simp only [List.take_succ_cons, List.cons.injEq] at ht
    obtain ⟨rfl, ht⟩ := ht
    have := bytesLess_at ht hx hy hne
    have hlt : ¬ x' < x' := by simp
    simp [Op.bytesLess, this, hlt]
  | [], _, i, x, y, _, hx, _, _ => by simp at hx
  | _ :: _, [], i, x, y, _, _, hy, _ => by simp at hy

/-! ## Operations -/
def kindAt (l : List OpD) (k : Nat) : Int := ((l[k]?).map (·.kind)).getD 0
def rightX (l : List OpD) (i : Int) (x : OpD) : Int :=
  if refB x.at_ = false then 1
  else if x.kind = 1 ∧ (x.left = true ∧ rootB x.at_ = true) then 1
  else if x.kind = 2 ∧ (x.left = true ∨ (x.byte.toNat : Int) ≠ 0 ∨ rootB x.at_ = true) then 1
  else if x.kind ≠ 1 ∧ x.kind ≠ 2 then 1
  else if x.at_.own = true ∧ (i ≤ x.at_.n ∨ kindAt l (x.at_.n - 1).toNat ≠ 1) then 5 else 0
/-- What is wrong with the i-th operation. -/
def rightI (l : List OpD) (i : Int) : Int := if i < 1 ∨ (l.length : Int) < i then 9 else match l[(i - 1).toNat]? with
  | some x => rightX l i x
  | none => 9
theorem rightI_of {l : List OpD} {i : Int} {x : OpD} (h : ¬ (i < 1 ∨ (l.length : Int) < i)) (hx : l[(i - 1).toNat]? = some x) : rightI l i = rightX l i x := by
  rw [rightI, if_neg h, hx]

theorem root_iff (r : RefD) : rootB r = true ↔ r.own = false ∧ r.c = Dig.zero ∧ r.n = 0 := by
  obtain ⟨o, c, n⟩ := r
  simp [rootB, RefD.zero]
theorem rk3 (r : RefD) : refKind r = 3 ↔ refB r = false := by
  obtain ⟨o, c, n⟩ := r
  cases o <;> by_cases h1 : c = Dig.zero <;> simp [refKind, refB, rootB, RefD.zero, h1] <;> (repeat' split) <;> first | omega | (simp_all; done) | (simp_all; omega)
theorem rk0 (r : RefD) : refKind r = 0 ↔ rootB r = true := by
  obtain ⟨o, c, n⟩ := r
  cases o <;> by_cases h1 : c = Dig.zero <;> simp [refKind, rootB, RefD.zero, h1] <;> (repeat' split) <;> first | omega | (simp_all; done) | (simp_all; omega)
theorem rk1 (r : RefD) : refKind r = 1 ↔ r.own = true ∧ refB r = true := by
  obtain ⟨o, c, n⟩ := r
  cases o <;> by_cases h1 : c = Dig.zero <;> simp [refKind, refB, rootB, RefD.zero, h1] <;> (repeat' split) <;> first | omega | (simp_all; done) | (simp_all; omega)
theorem rightX_alt (l : List OpD) (i : Int) (x : OpD) : rightX l i x =
    if refKind x.at_ = 3 ∨ (¬ (x.kind = 1 ∧ ¬ (refKind x.at_ = 0 ∧ x.left = true)) ∧ ¬ (x.kind = 2 ∧ refKind x.at_ ≠ 0 ∧ x.left = false ∧ (x.byte.toNat : Int) = 0)) then 1
    else if refKind x.at_ = 1 ∧ (i ≤ x.at_.n ∨ kindAt l (x.at_.n - 1).toNat ≠ 1) then 5 else 0 := by
  have hl : x.left = true ∨ x.left = false := by cases x.left <;> simp
  have ho : x.at_.own = true ∨ x.at_.own = false := by cases x.at_.own <;> simp
  simp only [rightX, ne_eq, rk3, rk0, rk1]
  generalize (x.byte.toNat : Int) = b
  generalize kindAt l (x.at_.n - 1).toNat = q
  generalize x.at_.n = n
  generalize x.kind = k
  by_cases h1 : refB x.at_ = false
  · simp [h1]
  · have h1' : refB x.at_ = true := by simpa using h1
    rcases hl with hl | hl <;> rcases ho with ho | ho <;> by_cases h2 : k = 1 <;> by_cases h3 : k = 2 <;> by_cases h4 : b = 0 <;> by_cases h5 : rootB x.at_ = true <;> simp_all

/-! ## Names -/
/-- The letters of a name. -/
def lettersL : List UInt8 := [65, 66, 67, 68, 69, 70, 71, 72, 73, 74, 75, 76, 77, 78, 79, 80, 81, 82, 83, 84, 85, 86, 87, 88, 89, 90, 97, 98, 99, 100, 101, 102, 103, 104, 105, 106, 107, 108, 109, 110, 111, 112, 113, 114, 115, 116, 117, 118, 119, 120, 121, 122, 48, 49, 50, 51, 52, 53, 54, 55, 56, 57, 45, 95, 46, 35, 64, 126]
def letterI (c : Int) : Bool := decide ((65 ≤ c ∧ c ≤ 90) ∨ (97 ≤ c ∧ c ≤ 122) ∨ (48 ≤ c ∧ c ≤ 57) ∨ c = 45 ∨ c = 95 ∨ c = 46 ∨ c = 35 ∨ c = 64 ∨ c = 126)
def letter (c : UInt8) : Bool := letterI (c.toNat : Int)
theorem letter_all : ∀ n, n < 256 → decide (Lib.indexByte lettersL (UInt8.ofNat n) < 0) = !letterI (n : Int) := by decide +kernel
theorem letter_index (c : UInt8) : Lib.indexByte lettersL c < 0 ↔ letter c = false := by
  have h := letter_all c.toNat c.toNat_lt
  rw [UInt8.ofNat_toNat] at h
  unfold letter
  rw [Bool.eq_iff_iff] at h
  simp at h
  rw [h]
def nameB (l : List UInt8) : Bool := l.all letter && (decide (1 ≤ l.length) && decide (l.length ≤ 24))
theorem all_take_succ {l : List UInt8} {i : Nat} {x : UInt8} {p : UInt8 → Bool} (h : (l.take i).all p = true) (hx : l[i]? = some x) (hp : p x = true) : (l.take (i + 1)).all p = true := by
  rw [take_succ hx, List.all_append, h]; simp [hp]
theorem nameB_no {l : List UInt8} {i : Nat} {x : UInt8} (hx : l[i]? = some x) (hp : letter x = false) : nameB l = false := by
  have : l.all letter = false := by
    rw [Bool.eq_false_iff]
    intro h
    rw [List.all_eq_true] at h
    have := h x (List.mem_of_getElem? hx)
    rw [hp] at this; cases this
  simp [nameB, this]
theorem nameB_end {l : List UInt8} {i : Nat} (h : (l.take i).all letter = true) (hi : l.length ≤ i) : nameB l = (decide (1 ≤ l.length) && decide (l.length ≤ 24)) := by
  rw [List.take_of_length_le hi] at h
  simp [nameB, h]
theorem get_toList {s : ByteArray} {i : Nat} (h : i < s.size) : s.toList[i]? = some s[i] := by
  rw [ByteArray.toList_eq]
  show s.data.toList[i]? = some s.data[i]
  simp
/-! ## Commits -/
def risingB : List Dig → Bool
  | [] => true
  | [_] => true
  | x :: y :: r => lessB x y && risingB (y :: r)
theorem rising_iff : ∀ l : List Dig, risingB l = true ↔ ∀ i x y, l[i]? = some x → l[i + 1]? = some y → lessB x y = true
  | [] => by simp [risingB]
  | [a] => by simp [risingB]
  | a :: b :: r => by
    rw [risingB, Bool.and_eq_true, rising_iff (b :: r)]
    constructor
    · rintro ⟨h1, h2⟩ i x y hx hy
      cases i with
      | zero => simp at hx hy; subst hx; subst hy; exact h1
      | succ i => exact h2 i x y (by simpa using hx) (by simpa using hy)
    · intro h
      exact ⟨h 0 a b rfl rfl, fun i x y hx hy => h (i + 1) x y (by simpa using hx) (by simpa using hy)⟩
/-- The first that is not 0 of what is wrong with the operations from i on. -/
def opsErrFrom (l : List OpD) : Nat → Nat → Int
  | _, 0 => 0
  | i, n + 1 => if rightI l (i + 1) ≠ 0 then rightI l (i + 1) else opsErrFrom l (i + 1) n
def opsErr (l : List OpD) : Int := opsErrFrom l 0 l.length
theorem opsErrFrom_skip (l : List OpD) : ∀ (k i n : Nat), (∀ j, i ≤ j → j < i + k → rightI l (j + 1) = 0) → k ≤ n → opsErrFrom l i n = opsErrFrom l (i + k) (n - k)
  | 0, i, n, _, _ => rfl
  | k + 1, i, n + 1, h, hk => by
    have h0 := h i (Nat.le_refl _) (by omega)
    rw [opsErrFrom, if_neg (by simp [h0]), opsErrFrom_skip l k (i + 1) n (fun j h1 h2 => h j (by omega) (by omega)) (by omega)]
    congr 1
    · omega
    · omega
  | k + 1, i, 0, _, hk => by omega
theorem opsErr_at {l : List OpD} {i : Nat} (h : ∀ j : Nat, j < i → rightI l (j + 1) = 0) (hi : i < l.length) (hne : rightI l (i + 1) ≠ 0) : opsErr l = rightI l (i + 1) := by
  rw [opsErr, opsErrFrom_skip l i 0 l.length (fun j _ hj => h j (by omega)) (by omega), Nat.zero_add]
  obtain ⟨m, hm⟩ : ∃ m, l.length - i = m + 1 := ⟨l.length - i - 1, by omega⟩
  rw [hm, opsErrFrom, if_pos hne]
theorem opsErr_end {l : List OpD} (h : ∀ j : Nat, j < l.length → rightI l (j + 1) = 0) : opsErr l = 0 := by
  rw [opsErr, opsErrFrom_skip l l.length 0 l.length (fun j _ hj => h j (by omega)) (by omega), Nat.sub_self]
  rfl
/-- What is wrong with a commit. -/
def mayI (c : ComD) : Int :=
  if 8 < c.parents.length then 4 else if risingB c.parents = false then 7 else if nameB c.author.toList = false then 11
  else if 200 < c.note.size then 3 else if 2000 < c.ops.length then 4 else opsErr c.ops
end Go.Pl
