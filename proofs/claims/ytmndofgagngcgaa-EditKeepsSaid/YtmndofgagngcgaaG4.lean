/- Several texts as one: Qa, Qb, Qc, Qz. -/
import Derived.Test.YtmndofgagngcgaaG1
set_option linter.unusedSimpArgs false
set_option linter.unusedVariables false
/- Fugue's trees as Lean's data: elements, the walk, what is added, what a tree shows. No condition; no program. -/
namespace Go.Fu
open Go.Fw Go.Pl
theorem bq_asymm : ∀ {a b : List UInt8}, Op.bytesLess a b = true → Op.bytesLess b a = false
  | _, [], h => by simp [Op.bytesLess] at h
  | [], _ :: _, _ => by simp [Op.bytesLess]
  | a :: x, b :: y, h => by
    simp only [Op.bytesLess, Bool.or_eq_true, decide_eq_true_eq, Bool.and_eq_true, beq_iff_eq] at h
    simp only [Op.bytesLess, Bool.or_eq_false_iff, decide_eq_false_iff_not, Bool.and_eq_false_imp, beq_iff_eq]
    rcases h with h | ⟨rfl, h⟩
    · exact ⟨fun h' => by have := UInt8.lt_iff_toNat_lt.1 h; have := UInt8.lt_iff_toNat_lt.1 h'; omega, fun e => by subst e; exact absurd h (UInt8.lt_irrefl _)⟩
    · exact ⟨UInt8.lt_irrefl _, fun _ => bq_asymm h⟩
theorem bq_trans : ∀ {a b c : List UInt8}, Op.bytesLess a b = true → Op.bytesLess b c = true → Op.bytesLess a c = true
  | _, [], _, h, _ => by simp [Op.bytesLess] at h
  | _, _ :: _, [], _, h => by simp [Op.bytesLess] at h
  | [], _ :: _, _ :: _, _, _ => by simp [Op.bytesLess]
  | a :: x, b :: y, c :: z, h, k => by
    simp only [Op.bytesLess, Bool.or_eq_true, decide_eq_true_eq, Bool.and_eq_true, beq_iff_eq] at h k ⊢
    rcases h with h | ⟨rfl, h⟩
    · rcases k with k | ⟨rfl, k⟩
      · exact .inl (UInt8.lt_trans h k)
      · exact .inl h
    · rcases k with k | ⟨rfl, k⟩
      · exact .inl k
      · exact .inr ⟨rfl, bq_trans h k⟩
theorem bq_tri : ∀ {a b : List UInt8}, a.length = b.length → Op.bytesLess a b = false → Op.bytesLess b a = false → a = b
  | [], [], _, _, _ => rfl
  | [], _ :: _, h, _, _ => by simp at h
  | _ :: _, [], h, _, _ => by simp at h
  | a :: x, b :: y, hl, h, k => by
    simp only [Op.bytesLess, Bool.or_eq_false_iff, decide_eq_false_iff_not, Bool.and_eq_false_imp, beq_iff_eq] at h k
    have e : a = b := UInt8.toNat_inj.1 (by
      have h1 : ¬ a.toNat < b.toNat := fun x => h.1 (UInt8.lt_iff_toNat_lt.2 x)
      have h2 : ¬ b.toNat < a.toNat := fun x => k.1 (UInt8.lt_iff_toNat_lt.2 x)
      omega)
    subst e
    rw [bq_tri (by simpa using hl) (h.2 rfl) (k.2 rfl)]
theorem lq_asymm {a b : Dig} (h : lessB a b = true) : lessB b a = false := bq_asymm h
theorem lq_trans {a b c : Dig} (h : lessB a b = true) (k : lessB b c = true) : lessB a c = true := bq_trans h k
theorem lq_tri {a b : Dig} (h : lessB a b = false) (k : lessB b a = false) : a = b := Subtype.ext (bq_tri (by rw [a.2, b.2]) h k)
theorem lq_irrefl (a : Dig) : lessB a a = false := bytesLess_self _
end Go.Fu
namespace Go.Fu
open Go.Fw Go.Pl
/-- An element: its name, its byte, whether it is gone, the places of those on its left and right. -/
structure El where
  name : RefD
  byte : UInt8
  gone : Bool
  left : List Nat
  right : List Nat
def El.root : El := ⟨RefD.zero, 0, true, [], []⟩
/-- The walk from an element, for so deep a tree. -/
def walkF (e : List El) : Nat → Nat → List Nat
  | 0, _ => []
  | k + 1, i => match e[i]? with
    | none => []
    | some x => x.left.flatMap (walkF e k) ++ i :: x.right.flatMap (walkF e k)
def walkE (e : List El) (i : Nat) : List Nat := walkF e e.length i
abbrev orderE (e : List El) : List Nat := walkE e 0
/-- Those on an element's sides stand behind it. -/
def Down (e : List El) : Prop := ∀ i x, e[i]? = some x → ∀ c, c ∈ x.left ∨ c ∈ x.right → i < c ∧ c < e.length
section
variable {e e' : List El}
theorem flatMap_same {α β : Type} {l : List α} {f g : α → List β} (h : ∀ x ∈ l, f x = g x) : l.flatMap f = l.flatMap g := by
  induction l with
  | nil => rfl
  | cons a r ih => rw [List.flatMap_cons, List.flatMap_cons, h a (by simp), ih fun x hx => h x (by simp [hx])]
theorem walkF_stable (h : Down e) : ∀ {k k' i : Nat}, e.length ≤ k + i → e.length ≤ k' + i → walkF e k i = walkF e k' i
  | 0, 0, i, _, _ => rfl
  | 0, k' + 1, i, h1, _ => by
    have : e[i]? = none := List.getElem?_eq_none_iff.2 (by omega)
    simp [walkF, this]
  | k + 1, 0, i, _, h2 => by
    have : e[i]? = none := List.getElem?_eq_none_iff.2 (by omega)
    simp [walkF, this]
  | k + 1, k' + 1, i, h1, h2 => by
    rw [walkF, walkF]
    cases hx : e[i]? with
    | none => rfl
    | some x =>
      have hd := h i x hx
      simp only
      rw [flatMap_same (l := x.left) (g := walkF e k') fun c hc => walkF_stable h (by have := hd c (.inl hc); omega) (by have := hd c (.inl hc); omega),
        flatMap_same (l := x.right) (g := walkF e k') fun c hc => walkF_stable h (by have := hd c (.inr hc); omega) (by have := hd c (.inr hc); omega)]
theorem walkE_eq (h : Down e) {i : Nat} {x : El} (hx : e[i]? = some x) : walkE e i = x.left.flatMap (walkE e) ++ i :: x.right.flatMap (walkE e) := by
  have hi := (List.getElem?_eq_some_iff.1 hx).1
  have hd := h i x hx
  obtain ⟨k, hk⟩ : ∃ k, e.length = k + 1 := ⟨e.length - 1, by omega⟩
  rw [walkE, hk, walkF, hx]
  simp only
  rw [flatMap_same (l := x.left) (g := walkE e) fun c hc => walkF_stable h (by have := hd c (.inl hc); omega) (by omega),
    flatMap_same (l := x.right) (g := walkE e) fun c hc => walkF_stable h (by have := hd c (.inr hc); omega) (by omega)]
theorem walkE_out {i : Nat} (hi : e.length ≤ i) : walkE e i = [] := by
  have : e[i]? = none := List.getElem?_eq_none_iff.2 hi
  unfold walkE
  cases e.length <;> simp [walkF, this]
theorem down_ind (h : Down e) {P : Nat → Prop} (step : ∀ i x, e[i]? = some x → (∀ c, c ∈ x.left ∨ c ∈ x.right → c < e.length → P c) → P i) : ∀ i, i < e.length → P i := by
  have key : ∀ m i, e.length - i = m → i < e.length → P i := by
    intro m
    induction m using Nat.strongRecOn with
    | _ m ih =>
      intro i hm hi
      obtain ⟨x, hx⟩ : ∃ x, e[i]? = some x := ⟨_, List.getElem?_eq_getElem hi⟩
      exact step i x hx fun c hc hl => by
        have := h i x hx c hc
        exact ih (e.length - c) (by omega) c rfl hl
  exact fun i hi => key _ i rfl hi
theorem walk_lt (h : Down e) : ∀ i, i < e.length → ∀ j ∈ walkE e i, j < e.length ∧ i ≤ j ∨ j < e.length := by
  refine down_ind h fun i x hx ih j hj => ?_
  have hd := h i x hx
  have hi := (List.getElem?_eq_some_iff.1 hx).1
  rw [walkE_eq h hx, List.mem_append, List.mem_cons, List.mem_flatMap, List.mem_flatMap] at hj
  rcases hj with ⟨c, hc, hj⟩ | rfl | ⟨c, hc, hj⟩
  · have := ih c (.inl hc) (hd c (.inl hc)).2 j hj; omega
  · exact .inr hi
  · have := ih c (.inr hc) (hd c (.inr hc)).2 j hj; omega
theorem order_lt (h : Down e) {j : Nat} (hj : j ∈ orderE e) : j < e.length := by
  by_cases h0 : 0 < e.length
  · have := walk_lt h 0 h0 j hj; omega
  · rw [orderE, walkE_out (by omega)] at hj; cases hj

/-! ## An element more -/
/-- A list with n ahead of the first of whom f holds. -/
def putN (f : Nat → Bool) (n : Nat) : List Nat → List Nat
  | [] => [n]
  | y :: r => if f y = true then n :: y :: r else y :: putN f n r
theorem putN_split (f : Nat → Bool) (n : Nat) : ∀ l : List Nat, ∃ a b, l = a ++ b ∧ putN f n l = a ++ n :: b ∧ (∀ y ∈ a, f y = false) ∧ (∀ y r, b = y :: r → f y = true)
  | [] => ⟨[], [], rfl, rfl, fun _ h => by simp at h, fun _ _ h => by simp at h⟩
  | y :: r => by
    rw [putN]
    by_cases h : f y = true
    · rw [if_pos h]; exact ⟨[], y :: r, rfl, rfl, fun _ h => by simp at h, fun _ _ he => by cases he; exact h⟩
    · rw [if_neg h]
      obtain ⟨a, b, h1, h2, h3, h4⟩ := putN_split f n r
      exact ⟨y :: a, b, by rw [h1]; rfl, by rw [h2]; rfl, fun z hz => by
        rcases List.mem_cons.1 hz with rfl | hz
        · simpa using h
        · exact h3 z hz, h4⟩
theorem putN_mem {f : Nat → Bool} {n c : Nat} {l : List Nat} : c ∈ putN f n l ↔ c = n ∨ c ∈ l := by
  obtain ⟨a, b, h1, h2, _⟩ := putN_split f n l
  rw [h2, h1]
  simp only [List.mem_append, List.mem_cons]
  constructor <;> (intro h; rcases h with h | h | h <;> simp [h])
/-- Which name comes first. -/
noncomputable def nameLt (a b : RefD) : Bool := lessB a.c b.c || (decide (a.c = b.c) && decide (a.n < b.n))
def nm (e : List El) (i : Nat) : RefD := (e[i]?.map El.name).getD RefD.zero
theorem nm_at {i : Nat} {x : El} (h : e[i]? = some x) : nm e i = x.name := by rw [nm, h]; rfl
noncomputable def kid (e : List El) (r : RefD) (l : List Nat) : List Nat := putN (fun y => nameLt r (nm e y)) e.length l
noncomputable def El.more (x : El) (e : List El) (left : Bool) (r : RefD) : El := if left = true then { x with left := kid e r x.left } else { x with right := kid e r x.right }
noncomputable def growE (e : List El) (at_ : Nat) (left : Bool) (r : RefD) (b : UInt8) : List El := (e ++ [(⟨r, b, false, [], []⟩ : El)]).modify at_ fun x => x.more e left r
def goneE (e : List El) (at_ : Nat) : List El := e.modify at_ fun x => { x with gone := true }
theorem modify_other {l : List El} {i j : Nat} {f : El → El} (h : i ≠ j) : (l.modify i f)[j]? = l[j]? := by
  rw [List.getElem?_modify]; cases l[j]? <;> simp [h]
theorem modify_self {l : List El} {i : Nat} {f : El → El} {x : El} (h : l[i]? = some x) : (l.modify i f)[i]? = some (f x) := by
  rw [List.getElem?_modify, h]; simp
section grow
variable {at_ : Nat} {left : Bool} {r : RefD} {b : UInt8}
theorem grow_length : (growE e at_ left r b).length = e.length + 1 := by simp [growE]
theorem grow_new (ha : at_ < e.length) : (growE e at_ left r b)[e.length]? = some ⟨r, b, false, [], []⟩ := by
  rw [growE, modify_other (by omega)]; simp
theorem grow_at (ha : at_ < e.length) {x : El} (hx : e[at_]? = some x) : (growE e at_ left r b)[at_]? = some (x.more e left r) := by
  rw [growE]; exact modify_self (by rw [List.getElem?_append_left ha, hx])
theorem grow_else {i : Nat} (hi : i < e.length) (hne : i ≠ at_) : (growE e at_ left r b)[i]? = e[i]? := by
  rw [growE, modify_other (fun h => hne h.symm), List.getElem?_append_left hi]
theorem grow_old {i : Nat} {x : El} (hx : e[i]? = some x) : (growE e at_ left r b)[i]? = some (if i = at_ then x.more e left r else x) := by
  have hi := (List.getElem?_eq_some_iff.1 hx).1
  by_cases h : i = at_
  · subst h; rw [if_pos rfl]; exact grow_at hi hx
  · rw [if_neg h, grow_else hi h, hx]
theorem grow_inv {i : Nat} {y : El} (ha : at_ < e.length) (h : (growE e at_ left r b)[i]? = some y) : (i = e.length ∧ y = ⟨r, b, false, [], []⟩) ∨ ∃ x, e[i]? = some x ∧ y = if i = at_ then x.more e left r else x := by
  have hi := (List.getElem?_eq_some_iff.1 h).1
  rw [grow_length] at hi
  by_cases hn : i = e.length
  · subst hn; rw [grow_new ha] at h; exact .inl ⟨rfl, (Option.some.inj h).symm⟩
  · obtain ⟨x, hx⟩ : ∃ x, e[i]? = some x := ⟨_, List.getElem?_eq_getElem (by omega)⟩
    rw [grow_old hx] at h
    exact .inr ⟨x, hx, (Option.some.inj h).symm⟩
theorem more_kids {x : El} {c : Nat} (h : c ∈ (x.more e left r).left ∨ c ∈ (x.more e left r).right) : c = e.length ∨ c ∈ x.left ∨ c ∈ x.right := by
  unfold El.more at h
  split at h
  · rcases h with h | h
    · rcases putN_mem.1 h with h | h
      · exact .inl h
      · exact .inr (.inl h)
    · exact .inr (.inr h)
  · rcases h with h | h
    · exact .inr (.inl h)
    · rcases putN_mem.1 h with h | h
      · exact .inl h
      · exact .inr (.inr h)
theorem grow_down (h : Down e) (ha : at_ < e.length) : Down (growE e at_ left r b) := by
  intro i y hy c hc
  rw [grow_length]
  rcases grow_inv ha hy with ⟨_, rfl⟩ | ⟨x, hx, rfl⟩
  · simp at hc
  · have hi := (List.getElem?_eq_some_iff.1 hx).1
    have hd := h i x hx
    split at hc
    · rcases more_kids hc with rfl | hc
      · omega
      · have := hd c hc; omega
    · have := hd c hc; omega
theorem grow_walk_new (h : Down e) (ha : at_ < e.length) : walkE (growE e at_ left r b) e.length = [e.length] := by
  rw [walkE_eq (grow_down h ha) (grow_new ha)]; rfl
theorem flatMap_putN {f : Nat → Bool} {n : Nat} {l : List Nat} {g : Nat → List Nat} (hg : g n = []) : (putN f n l).flatMap g = l.flatMap g := by
  obtain ⟨a, b, h1, h2, _⟩ := putN_split f n l
  rw [h2, h1]; simp [hg]
/-- Without the new one the walk is what it was. -/
theorem grow_filter (h : Down e) (ha : at_ < e.length) : ∀ i, i < e.length → (walkE (growE e at_ left r b) i).filter (fun j => decide (j ≠ e.length)) = walkE e i := by
  refine down_ind h fun i x hx ih => ?_
  have hi := (List.getElem?_eq_some_iff.1 hx).1
  have hd := h i x hx
  have hn := grow_walk_new (left := left) (r := r) (b := b) h ha
  rw [walkE_eq (grow_down h ha) (grow_old hx), walkE_eq h hx, List.filter_append, List.filter_cons, if_pos (show decide (i ≠ e.length) = true from decide_eq_true (by omega)), List.filter_flatMap, List.filter_flatMap]
  have hnew : (fun j => (walkE (growE e at_ left r b) j).filter (fun j => decide (j ≠ e.length))) e.length = [] := by simp [hn]
  have e1 : (if i = at_ then x.more e left r else x).left.flatMap (fun j => (walkE (growE e at_ left r b) j).filter (fun j => decide (j ≠ e.length))) = x.left.flatMap (walkE e) := by
    have : x.left.flatMap (fun j => (walkE (growE e at_ left r b) j).filter (fun j => decide (j ≠ e.length))) = x.left.flatMap (walkE e) := flatMap_same fun c hc => ih c (.inl hc) (hd c (.inl hc)).2
    split
    · unfold El.more
      split
      · show (kid e r x.left).flatMap _ = _
        rw [kid, flatMap_putN hnew, this]
      · exact this
    · exact this
  have e2 : (if i = at_ then x.more e left r else x).right.flatMap (fun j => (walkE (growE e at_ left r b) j).filter (fun j => decide (j ≠ e.length))) = x.right.flatMap (walkE e) := by
    have : x.right.flatMap (fun j => (walkE (growE e at_ left r b) j).filter (fun j => decide (j ≠ e.length))) = x.right.flatMap (walkE e) := flatMap_same fun c hc => ih c (.inr hc) (hd c (.inr hc)).2
    split
    · unfold El.more
      split
      · exact this
      · show (kid e r x.right).flatMap _ = _
        rw [kid, flatMap_putN hnew, this]
    · exact this
  rw [e1, e2]
theorem count_flatMap_same {l : List Nat} {f g : Nat → List Nat} {a b : Nat} (h : ∀ x ∈ l, (f x).count a = (g x).count b) : (l.flatMap f).count a = (l.flatMap g).count b := by
  induction l with
  | nil => rfl
  | cons x t ih => rw [List.flatMap_cons, List.flatMap_cons, List.count_append, List.count_append, h x (by simp), ih fun y hy => h y (by simp [hy])]
theorem count_flatMap_putN {f : Nat → Bool} {n a : Nat} {l : List Nat} {g : Nat → List Nat} : ((putN f n l).flatMap g).count a = (l.flatMap g).count a + (g n).count a := by
  obtain ⟨x, y, h1, h2, _⟩ := putN_split f n l
  rw [h2, h1]; simp [List.count_append]; omega
/-- The new one comes as often as the one at whose side it stands. -/
theorem grow_count (h : Down e) (ha : at_ < e.length) : ∀ i, i < e.length → (walkE (growE e at_ left r b) i).count e.length = (walkE e i).count at_ := by
  refine down_ind h fun i x hx ih => ?_
  have hi := (List.getElem?_eq_some_iff.1 hx).1
  have hd := h i x hx
  have hn := grow_walk_new (left := left) (r := r) (b := b) h ha
  rw [walkE_eq (grow_down h ha) (grow_old hx), walkE_eq h hx, List.count_append, List.count_append, List.count_cons, List.count_cons, if_neg (show ¬ (i == e.length) = true by rw [beq_iff_eq]; omega)]
  have e1 := count_flatMap_same (l := x.left) (f := walkE (growE e at_ left r b)) (g := walkE e) (a := e.length) (b := at_) fun c hc => ih c (.inl hc) (hd c (.inl hc)).2
  have e2 := count_flatMap_same (l := x.right) (f := walkE (growE e at_ left r b)) (g := walkE e) (a := e.length) (b := at_) fun c hc => ih c (.inr hc) (hd c (.inr hc)).2
  have h1 : List.count e.length (walkE (growE e at_ left r b) e.length) = 1 := by rw [hn]; simp
  by_cases hia : i = at_
  · rw [if_pos (show (i == at_) = true by simp [hia])]
    simp only [if_pos hia]
    unfold El.more
    split
    · show List.count _ ((kid e r x.left).flatMap _) + (List.count _ (x.right.flatMap _) + _) = _
      rw [kid, count_flatMap_putN, h1, e1, e2]; omega
    · show List.count _ (x.left.flatMap _) + (List.count _ ((kid e r x.right).flatMap _) + _) = _
      rw [kid, count_flatMap_putN, h1, e1, e2]
  · rw [if_neg (show ¬ (i == at_) = true by simpa using hia)]
    simp only [if_neg hia]
    rw [e1, e2]
theorem flatMap_flatMap_same {l : List Nat} {f g : Nat → List Nat} {p : Nat → List Nat} (h : ∀ x ∈ l, f x = (g x).flatMap p) : l.flatMap f = (l.flatMap g).flatMap p := by
  rw [List.flatMap_assoc]; exact flatMap_same h
/-- A new one that comes first on the right stands just behind. -/
theorem grow_right (h : Down e) (ha : at_ < e.length) {z : El} (hz : e[at_]? = some z) (hp : kid e r z.right = e.length :: z.right) : ∀ i, i < e.length → walkE (growE e at_ false r b) i = (walkE e i).flatMap fun j => if j = at_ then [at_, e.length] else [j] := by
  refine down_ind h fun i x hx ih => ?_
  have hi := (List.getElem?_eq_some_iff.1 hx).1
  have hd := h i x hx
  have hn := grow_walk_new (left := false) (r := r) (b := b) h ha
  rw [walkE_eq (grow_down h ha) (grow_old hx), walkE_eq h hx, List.flatMap_append, List.flatMap_cons]
  have e1 := flatMap_flatMap_same (l := x.left) (f := walkE (growE e at_ false r b)) (g := walkE e) (p := fun j => if j = at_ then [at_, e.length] else [j]) fun c hc => ih c (.inl hc) (hd c (.inl hc)).2
  have e2 := flatMap_flatMap_same (l := x.right) (f := walkE (growE e at_ false r b)) (g := walkE e) (p := fun j => if j = at_ then [at_, e.length] else [j]) fun c hc => ih c (.inr hc) (hd c (.inr hc)).2
  by_cases hia : i = at_
  · subst hia
    obtain rfl : x = z := Option.some.inj (hx.symm.trans hz)
    rw [if_pos rfl, if_pos rfl]
    show x.left.flatMap _ ++ i :: (kid e r x.right).flatMap _ = _
    rw [hp, List.flatMap_cons, hn, e1, e2]; rfl
  · rw [if_neg hia, if_neg hia, e1, e2]; rfl
/-- A new one that comes last on the left stands just ahead. -/
theorem grow_left (h : Down e) (ha : at_ < e.length) {z : El} (hz : e[at_]? = some z) (hp : kid e r z.left = z.left ++ [e.length]) : ∀ i, i < e.length → walkE (growE e at_ true r b) i = (walkE e i).flatMap fun j => if j = at_ then [e.length, at_] else [j] := by
  refine down_ind h fun i x hx ih => ?_
  have hi := (List.getElem?_eq_some_iff.1 hx).1
  have hd := h i x hx
  have hn := grow_walk_new (left := true) (r := r) (b := b) h ha
  rw [walkE_eq (grow_down h ha) (grow_old hx), walkE_eq h hx, List.flatMap_append, List.flatMap_cons]
  have e1 := flatMap_flatMap_same (l := x.left) (f := walkE (growE e at_ true r b)) (g := walkE e) (p := fun j => if j = at_ then [e.length, at_] else [j]) fun c hc => ih c (.inl hc) (hd c (.inl hc)).2
  have e2 := flatMap_flatMap_same (l := x.right) (f := walkE (growE e at_ true r b)) (g := walkE e) (p := fun j => if j = at_ then [e.length, at_] else [j]) fun c hc => ih c (.inr hc) (hd c (.inr hc)).2
  by_cases hia : i = at_
  · subst hia
    obtain rfl : x = z := Option.some.inj (hx.symm.trans hz)
    rw [if_pos rfl, if_pos rfl]
    show (kid e r x.left).flatMap _ ++ i :: x.right.flatMap _ = _
    rw [hp, List.flatMap_append, List.flatMap_cons, List.flatMap_nil, hn, e1, e2]; simp
  · rw [if_neg hia, if_neg hia, e1, e2]; rfl
end grow
/-! ## Gone -/
theorem gone_at {at_ i : Nat} : (goneE e at_)[i]? = (e[i]?).map fun x => if i = at_ then { x with gone := true } else x := by
  unfold goneE
  by_cases h : at_ = i
  · subst h; cases hx : e[at_]? with
    | none => rw [List.getElem?_modify, hx]; rfl
    | some x => rw [modify_self hx]; simp
  · rw [modify_other h]; cases e[i]? with
    | none => rfl
    | some x => simp only [Option.map_some]; rw [if_neg (fun h' => h h'.symm)]
theorem gone_length {at_ : Nat} : (goneE e at_).length = e.length := by simp [goneE]
theorem gone_walkF {at_ : Nat} : ∀ {k i : Nat}, walkF (goneE e at_) k i = walkF e k i
  | 0, _ => rfl
  | k + 1, i => by
    rw [walkF, walkF, gone_at]
    cases e[i]? with
    | none => rfl
    | some x =>
      simp only [Option.map_some]
      split <;> rw [flatMap_same (g := walkF e k) fun c _ => gone_walkF, flatMap_same (l := x.right) (g := walkF e k) fun c _ => gone_walkF]
theorem gone_walk {at_ i : Nat} : walkE (goneE e at_) i = walkE e i := by rw [walkE, walkE, gone_length, gone_walkF]
theorem gone_down {at_ : Nat} (h : Down e) : Down (goneE e at_) := by
  intro i y hy c hc
  rw [gone_at] at hy
  obtain ⟨x, hx, rfl⟩ := Option.map_eq_some_iff.1 hy
  rw [gone_length]
  refine h i x hx c ?_
  split at hc <;> exact hc
end
end Go.Fu
namespace Go.Fu
open Go.Fw Go.Pl
/-! ## Names -/
section
variable {a b c : RefD}
theorem nlt_irrefl : nameLt a a = false := by simp [nameLt, lq_irrefl]
theorem nlt_trans (h : nameLt a b = true) (k : nameLt b c = true) : nameLt a c = true := by
  simp only [nameLt, Bool.or_eq_true, Bool.and_eq_true, decide_eq_true_eq] at h k ⊢
  rcases h with h | ⟨h1, h2⟩ <;> rcases k with k | ⟨k1, k2⟩
  · exact .inl (lq_trans h k)
  · exact .inl (k1 ▸ h)
  · exact .inl (h1 ▸ k)
  · exact .inr ⟨h1.trans k1, by omega⟩
theorem nlt_asymm (h : nameLt a b = true) : nameLt b a = false := by
  cases hb : nameLt b a with
  | false => rfl
  | true => have := nlt_trans h hb; rw [nlt_irrefl] at this; cases this
theorem nlt_tri (ho : a.own = b.own) (h : nameLt a b = false) (k : nameLt b a = false) : a = b := by
  simp only [nameLt, Bool.or_eq_false_iff, Bool.and_eq_false_iff, decide_eq_false_iff_not] at h k
  have hc := lq_tri h.1 k.1
  obtain ⟨o, c, n⟩ := a
  obtain ⟨o', c', n'⟩ := b
  simp only at ho hc h k
  subst ho; subst hc
  have : n = n' := by rcases h.2 with h | h <;> rcases k.2 with k | k <;> first | exact absurd rfl h | exact absurd rfl k | omega
  rw [this]
end
/-- The names of a list of places. -/
abbrev nms (e : List El) (l : List Nat) : List RefD := l.map (nm e)
abbrev Srt (l : List RefD) : Prop := l.Pairwise fun x y => nameLt x y = true
/-- Sorted lists of the same names are the same. -/
theorem srt_eq : ∀ {a b : List RefD}, Srt a → Srt b → (∀ x, x ∈ a ↔ x ∈ b) → a = b
  | [], [], _, _, _ => rfl
  | [], y :: b, _, _, h => by have := (h y).2 (by simp); simp at this
  | x :: a, [], _, _, h => by have := (h x).1 (by simp); simp at this
  | x :: a, y :: b, ha, hb, h => by
    have ha' := List.pairwise_cons.1 ha
    have hb' := List.pairwise_cons.1 hb
    have hxy : x = y := by
      rcases List.mem_cons.1 ((h x).1 (by simp)) with e | hx
      · exact e
      · rcases List.mem_cons.1 ((h y).2 (by simp)) with e | hy
        · exact e.symm
        · have h1 := hb'.1 x hx
          have h2 := ha'.1 y hy
          rw [nlt_asymm h1] at h2; cases h2
    subst hxy
    rw [srt_eq ha'.2 hb'.2 fun z => ?_]
    constructor
    · intro hz
      rcases List.mem_cons.1 ((h z).1 (by simp [hz])) with rfl | hz'
      · have := ha'.1 z hz; rw [nlt_irrefl] at this; cases this
      · exact hz'
    · intro hz
      rcases List.mem_cons.1 ((h z).2 (by simp [hz])) with rfl | hz'
      · have := hb'.1 z hz; rw [nlt_irrefl] at this; cases this
      · exact hz'
/-! ## Where a name stands -/
def atE (e : List El) (r : RefD) : Option Nat := e.findIdx? fun x => decide (x.name = r)
section
variable {e : List El} {r : RefD} {i : Nat}
theorem atE_some : atE e r = some i ↔ ∃ x, e[i]? = some x ∧ x.name = r ∧ ∀ j y, j < i → e[j]? = some y → y.name ≠ r := by
  rw [atE, List.findIdx?_eq_some_iff_getElem]
  constructor
  · rintro ⟨h, h1, h2⟩
    refine ⟨_, List.getElem?_eq_getElem h, of_decide_eq_true h1, fun j y hj hy hn => ?_⟩
    have := h2 j hj
    obtain ⟨hl, rfl⟩ := List.getElem?_eq_some_iff.1 hy
    simp [hn] at this
  · rintro ⟨x, hx, hn, h⟩
    obtain ⟨hl, rfl⟩ := List.getElem?_eq_some_iff.1 hx
    refine ⟨hl, decide_eq_true hn, fun j hj => ?_⟩
    have := h j _ hj (List.getElem?_eq_getElem (by omega))
    simpa using this
theorem atE_none : atE e r = none ↔ ∀ x ∈ e, x.name ≠ r := by
  rw [atE, List.findIdx?_eq_none_iff]
  simp
theorem atE_lt (h : atE e r = some i) : i < e.length := by
  obtain ⟨x, hx, _⟩ := atE_some.1 h
  exact (List.getElem?_eq_some_iff.1 hx).1
theorem atE_nm (h : atE e r = some i) : nm e i = r := by
  obtain ⟨x, hx, hn, _⟩ := atE_some.1 h
  rw [nm_at hx, hn]
theorem atE_is (h : ∃ x ∈ e, x.name = r) : ∃ i, atE e r = some i := by
  cases hi : atE e r with
  | some i => exact ⟨i, rfl⟩
  | none => obtain ⟨x, hx, hn⟩ := h; exact absurd hn (atE_none.1 hi x hx)
theorem atE_mem (h : atE e r = some i) : ∃ x ∈ e, x.name = r := by
  obtain ⟨x, hx, hn, _⟩ := atE_some.1 h
  exact ⟨x, List.mem_of_getElem? hx, hn⟩
end
/-- What holds of the elements of a tree. -/
structure Good (e : List El) : Prop where
  down : Down e
  root : ∃ x, e[0]? = some x ∧ x.name = RefD.zero ∧ x.gone = true
  own : ∀ (i : Nat) (x : El), 0 < i → e[i]? = some x → x.name.own = false ∧ 1 ≤ x.name.n ∧ x.name.n ≤ 2000
  uniq : (e.map El.name).Nodup
  perm : (orderE e).Perm (List.range e.length)
  sort : ∀ (i : Nat) (x : El), e[i]? = some x → Srt (nms e x.left) ∧ Srt (nms e x.right)
section
variable {e : List El}
theorem good_root : Good [El.root] where
  down := fun i x hx c hc => by
    cases i with
    | zero => simp at hx; subst hx; simp [El.root] at hc
    | succ i => simp at hx
  root := ⟨_, rfl, rfl, rfl⟩
  own := fun i x hi hx => by
    cases i with
    | zero => omega
    | succ i => simp at hx
  uniq := by simp
  perm := by
    have : orderE [El.root] = [0] := rfl
    rw [this]; exact List.Perm.refl _
  sort := fun i x hx => by
    cases i with
    | zero => simp at hx; subst hx; simp [El.root]
    | succ i => simp at hx
theorem Good.pos (h : Good e) : 0 < e.length := by obtain ⟨x, hx, _⟩ := h.root; exact (List.getElem?_eq_some_iff.1 hx).1
theorem Good.inj (h : Good e) {i j : Nat} {x y : El} (hx : e[i]? = some x) (hy : e[j]? = some y) (hn : x.name = y.name) : i = j := by
  have h1 : (e.map El.name)[i]? = some x.name := by simp [hx]
  have h2 : (e.map El.name)[j]? = some x.name := by simp [hy, hn]
  exact (List.getElem?_inj (by simpa using (List.getElem?_eq_some_iff.1 hx).1) h.uniq).1 (h1.trans h2.symm)
theorem Good.find (h : Good e) {i : Nat} {x : El} (hx : e[i]? = some x) : atE e x.name = some i := by
  refine atE_some.2 ⟨x, hx, rfl, fun j y hj hy hn => ?_⟩
  have := h.inj hy hx hn
  omega
theorem Good.at0 (h : Good e) : atE e RefD.zero = some 0 := by obtain ⟨x, hx, hn, _⟩ := h.root; rw [← hn]; exact h.find hx
theorem Good.zero (h : Good e) {i : Nat} {x : El} (hx : e[i]? = some x) : x.name = RefD.zero ↔ i = 0 := by
  obtain ⟨z, hz, hn, _⟩ := h.root
  constructor
  · intro hh; exact h.inj hx hz (hh.trans hn.symm)
  · rintro rfl; rw [hx] at hz; cases hz; exact hn
theorem Good.ownF (h : Good e) {i : Nat} {x : El} (hx : e[i]? = some x) : x.name.own = false := by
  by_cases hi : i = 0
  · rw [(h.zero hx).2 hi]; rfl
  · exact (h.own i x (by omega) hx).1
theorem Good.nodup (h : Good e) : (orderE e).Nodup := h.perm.nodup_iff.2 List.nodup_range
theorem Good.mem (h : Good e) {i : Nat} : i ∈ orderE e ↔ i < e.length := by rw [h.perm.mem_iff, List.mem_range]
theorem Good.once (h : Good e) {i : Nat} (hi : i < e.length) : (orderE e).count i = 1 := by
  have := List.nodup_iff_count.1 h.nodup i
  have h2 := List.count_pos_iff.2 (h.mem.2 hi)
  omega
theorem gone_nm {a i : Nat} : nm (goneE e a) i = nm e i := by
  rw [nm, nm, gone_at]
  cases e[i]? with
  | none => rfl
  | some x => simp only [Option.map_some]; split <;> rfl
theorem Good.gone (h : Good e) (a : Nat) : Good (goneE e a) where
  down := gone_down h.down
  root := by
    obtain ⟨x, hx, h1, h2⟩ := h.root
    refine ⟨if 0 = a then { x with gone := true } else x, by rw [gone_at, hx]; rfl, ?_, ?_⟩ <;> split <;> first | exact h1 | rfl | exact h2
  own := fun i y hi hy => by
    rw [gone_at] at hy
    obtain ⟨x, hx, rfl⟩ := Option.map_eq_some_iff.1 hy
    have := h.own i x hi hx
    split <;> exact this
  uniq := by
    have : (goneE e a).map El.name = e.map El.name := by
      refine List.ext_getElem? fun i => ?_
      rw [List.getElem?_map, List.getElem?_map, gone_at]
      cases e[i]? with
      | none => rfl
      | some x => simp only [Option.map_some]; split <;> rfl
    rw [this]; exact h.uniq
  perm := by rw [orderE, gone_walk, gone_length]; exact h.perm
  sort := fun i y hy => by
    rw [gone_at] at hy
    obtain ⟨x, hx, rfl⟩ := Option.map_eq_some_iff.1 hy
    have hf : (nm (goneE e a)) = nm e := funext fun i => gone_nm
    rw [nms, nms, hf]
    have := h.sort i x hx
    split <;> exact this
theorem grow_nm {a : Nat} {left : Bool} {r : RefD} {b : UInt8} (ha : a < e.length) {i : Nat} : nm (growE e a left r b) i = if i = e.length then r else nm e i := by
  by_cases hi : i = e.length
  · subst hi; rw [if_pos rfl, nm_at (grow_new ha)]
  · rw [if_neg hi]
    by_cases hl : i < e.length
    · obtain ⟨x, hx⟩ : ∃ x, e[i]? = some x := ⟨_, List.getElem?_eq_getElem hl⟩
      rw [nm_at hx, nm_at (grow_old hx)]
      split
      · unfold El.more; split <;> rfl
      · rfl
    · rw [nm, nm, List.getElem?_eq_none_iff.2 (by rw [grow_length]; omega), List.getElem?_eq_none_iff.2 (by omega)]
theorem putN_srt {r : RefD} {l : List Nat} {n : Nat} {g g' : Nat → RefD} (hs : Srt (l.map g)) (hg : ∀ y ∈ l, g' y = g y) (hn : g' n = r) (hne : ∀ y ∈ l, g y ≠ r) (ho : ∀ y ∈ l, (g y).own = r.own) : Srt ((putN (fun y => nameLt r (g y)) n l).map g') := by
  obtain ⟨a, b, h1, h2, h3, h4⟩ := putN_split (fun y => nameLt r (g y)) n l
  have hmap : ∀ m : List Nat, (∀ y ∈ m, y ∈ l) → m.map g' = m.map g := fun m hm => List.map_congr_left fun y hy => hg y (hm y hy)
  have ha : ∀ y ∈ a, y ∈ l := fun y hy => by rw [h1]; simp [hy]
  have hb : ∀ y ∈ b, y ∈ l := fun y hy => by rw [h1]; simp [hy]
  rw [h2, List.map_append, List.map_cons, hn, hmap a ha, hmap b hb]
  rw [h1, List.map_append] at hs
  obtain ⟨s1, s2, s3⟩ := List.pairwise_append.1 hs
  have hb' : ∀ y ∈ b, nameLt r (g y) = true := by
    cases b with
    | nil => intro y hy; cases hy
    | cons z t =>
      have hz := h4 z t rfl
      intro y hy
      rcases List.mem_cons.1 hy with rfl | hy
      · exact hz
      · exact nlt_trans hz ((List.pairwise_cons.1 s2).1 _ (List.mem_map_of_mem hy))
  refine List.pairwise_append.2 ⟨s1, List.pairwise_cons.2 ⟨fun x hx => ?_, s2⟩, fun x hx y hy => ?_⟩
  · obtain ⟨y, hy, rfl⟩ := List.mem_map.1 hx; exact hb' y hy
  · rcases List.mem_cons.1 hy with rfl | hy
    · obtain ⟨z, hz, rfl⟩ := List.mem_map.1 hx
      cases hzr : nameLt (g z) y with
      | true => rfl
      | false => exact absurd (nlt_tri (ho z (ha z hz)) hzr (h3 z hz)) (hne z (ha z hz))
    · exact s3 x hx y hy
theorem perm_new {l m : List Nat} {n : Nat} (hf : l.filter (fun j => decide (j ≠ n)) = m) (hc : l.count n = 1) : l.Perm (n :: m) := by
  refine List.perm_iff_count.2 fun a => ?_
  by_cases h : a = n
  · subst h
    rw [List.count_cons_self, hc, ← hf, List.count_eq_zero.2 (by simp)]
  · rw [List.count_cons_of_ne (fun h' => h h'.symm), ← hf, List.count_filter (by simpa using h)]
theorem Good.grow (h : Good e) {a : Nat} (ha : a < e.length) {left : Bool} {r : RefD} {b : UInt8} (hr : atE e r = none) (ho : r.own = false ∧ 1 ≤ r.n ∧ r.n ≤ 2000) : Good (growE e a left r b) where
  down := grow_down h.down ha
  root := by
    obtain ⟨x, hx, h1, h2⟩ := h.root
    refine ⟨_, grow_old hx, ?_, ?_⟩ <;> split <;> first | exact h1 | exact h2 | (unfold El.more; split <;> first | exact h1 | exact h2)
  own := fun i y hi hy => by
    rcases grow_inv ha hy with ⟨_, rfl⟩ | ⟨x, hx, rfl⟩
    · exact ho
    · have := h.own i x hi hx
      split
      · unfold El.more; split <;> exact this
      · exact this
  uniq := by
    have hm : (growE e a left r b).map El.name = e.map El.name ++ [r] := by
      refine List.ext_getElem? fun i => ?_
      by_cases hi : i < e.length
      · obtain ⟨x, hx⟩ : ∃ x, e[i]? = some x := ⟨_, List.getElem?_eq_getElem hi⟩
        rw [List.getElem?_map, grow_old hx, List.getElem?_append_left (by simpa using hi), List.getElem?_map, hx]
        simp only [Option.map_some]
        split
        · unfold El.more; split <;> rfl
        · rfl
      · by_cases hn : i = e.length
        · subst hn
          rw [List.getElem?_map, grow_new ha, List.getElem?_append_right (by simp)]; simp
        · rw [List.getElem?_eq_none_iff.2 (by rw [List.length_map, grow_length]; omega), List.getElem?_eq_none_iff.2 (by simp; omega)]
    rw [hm, List.nodup_append]
    refine ⟨h.uniq, by simp, fun x hx y hy => ?_⟩
    simp at hy; subst hy
    obtain ⟨z, hz, rfl⟩ := List.mem_map.1 hx
    exact atE_none.1 hr z hz
  perm := by
    have hp := perm_new (grow_filter (left := left) (r := r) (b := b) h.down ha 0 h.pos) (by rw [grow_count h.down ha 0 h.pos]; exact h.once ha)
    rw [grow_length, List.range_succ]
    exact hp.trans ((h.perm.cons e.length).trans (List.perm_append_singleton _ _).symm)
  sort := fun i y hy => by
    have hf : ∀ l : List Nat, (∀ c ∈ l, c < e.length) → nms (growE e a left r b) l = nms e l := fun l hl => List.map_congr_left fun c hc => by rw [grow_nm ha, if_neg (by have := hl c hc; omega)]
    rcases grow_inv ha hy with ⟨_, rfl⟩ | ⟨x, hx, rfl⟩
    · exact ⟨List.Pairwise.nil, List.Pairwise.nil⟩
    · have hd := h.down i x hx
      have hs := h.sort i x hx
      have h1 := hf x.left fun c hc => (hd c (.inl hc)).2
      have h2 := hf x.right fun c hc => (hd c (.inr hc)).2
      have hput : ∀ l : List Nat, Srt (nms e l) → (∀ c ∈ l, c < e.length) → Srt (nms (growE e a left r b) (kid e r l)) := fun l hs hl =>
        putN_srt hs (fun c hc => by rw [grow_nm ha, if_neg (by have := hl c hc; omega)]) (by rw [grow_nm ha, if_pos rfl])
          (fun c hc => by
            obtain ⟨z, hz⟩ : ∃ z, e[c]? = some z := ⟨_, List.getElem?_eq_getElem (hl c hc)⟩
            rw [nm_at hz]; exact atE_none.1 hr z (List.mem_of_getElem? hz))
          (fun c hc => by
            obtain ⟨z, hz⟩ : ∃ z, e[c]? = some z := ⟨_, List.getElem?_eq_getElem (hl c hc)⟩
            rw [nm_at hz, ho.1]; exact h.ownF hz)
      split
      · unfold El.more
        split
        · exact ⟨hput _ hs.1 fun c hc => (hd c (.inl hc)).2, by show Srt (nms _ x.right); rw [h2]; exact hs.2⟩
        · exact ⟨by show Srt (nms _ x.left); rw [h1]; exact hs.1, hput _ hs.2 fun c hc => (hd c (.inr hc)).2⟩
      · rw [h1, h2]; exact hs
end
/-! ## What a tree shows -/
def goneAt (e : List El) (i : Nat) : Bool := ((e[i]?).map El.gone).getD true
def byteAt (e : List El) (i : Nat) : UInt8 := ((e[i]?).map El.byte).getD 0
def seenE (e : List El) : List Nat := (orderE e).filter fun i => !goneAt e i
def textE (e : List El) : List UInt8 := (seenE e).map (byteAt e)
def refT (e : List El) (n : Int) : RefD × Bool := if n < 0 ∨ ((seenE e).length : Int) ≤ n then (RefD.zero, false) else (nm e ((seenE e)[n.toNat]?.getD 0), true)
def placeE (e : List El) (r : RefD) : Option Nat := (seenE e).findIdx? fun i => decide (nm e i = r)
def hasE (e : List El) (r : RefD) : Bool := match atE e r with | some i => decide (0 < i) | none => false
/-- The first one of the walk from an element. -/
def lmF (e : List El) : Nat → Nat → Nat
  | 0, i => i
  | k + 1, i => match e[i]? with
    | none => i
    | some x => match x.left with
      | [] => i
      | c :: _ => lmF e k c
def lmE (e : List El) (i : Nat) : Nat := lmF e e.length i
/-- The gap behind an element. -/
def gapAt (e : List El) (a : Nat) : RefD × Bool := match ((e[a]?).map El.right).getD [] with
  | [] => (nm e a, false)
  | c :: _ => (nm e (lmE e c), true)
def gapI (e : List El) (n : Int) : Nat := if n = 0 then 0 else ((seenE e)[(n - 1).toNat]?).getD 0
def gapE (e : List El) (n : Int) : RefD × Bool × Bool := if n < 0 ∨ ((seenE e).length : Int) < n then (RefD.zero, false, false) else ((gapAt e (gapI e n)).1, (gapAt e (gapI e n)).2, true)
section
variable {e : List El}
theorem goneAt_at {i : Nat} {x : El} (h : e[i]? = some x) : goneAt e i = x.gone := by rw [goneAt, h]; rfl
theorem byteAt_at {i : Nat} {x : El} (h : e[i]? = some x) : byteAt e i = x.byte := by rw [byteAt, h]; rfl
theorem seen_lt (h : Down e) {i : Nat} (hi : i ∈ seenE e) : i < e.length := order_lt h (List.mem_filter.1 hi).1
theorem seen_gone {i : Nat} (hi : i ∈ seenE e) : goneAt e i = false := by have := (List.mem_filter.1 hi).2; simpa using this
theorem Good.seen_nodup (h : Good e) : (seenE e).Nodup := List.Nodup.sublist List.filter_sublist h.nodup
theorem Good.seen_mem (h : Good e) {i : Nat} {x : El} (hx : e[i]? = some x) : i ∈ seenE e ↔ x.gone = false := by
  rw [seenE, List.mem_filter, h.mem, goneAt_at hx]
  have := (List.getElem?_eq_some_iff.1 hx).1
  simp [this]
theorem Good.seen_pos (h : Good e) {i : Nat} (hi : i ∈ seenE e) : 0 < i := by
  have hg := seen_gone hi
  obtain ⟨x, hx, _, hxg⟩ := h.root
  by_cases h0 : i = 0
  · subst h0; rw [goneAt_at hx, hxg] at hg; cases hg
  · omega
/-- So many are seen as are not gone. -/
theorem Good.seen_length (h : Good e) : (seenE e).length = e.countP fun x => !x.gone := by
  have h1 : (seenE e).Perm ((List.range e.length).filter fun i => !goneAt e i) := h.perm.filter _
  rw [h1.length_eq]
  have key : ∀ (l : List El), ((List.range l.length).filter fun i => !goneAt l i).length = l.countP fun x => !x.gone := by
    intro l
    rw [← List.countP_eq_length_filter]
    have : l.map (fun x => !x.gone) = (List.range l.length).map fun i => !goneAt l i := by
      refine List.ext_getElem? fun i => ?_
      rw [List.getElem?_map, List.getElem?_map]
      by_cases hi : i < l.length
      · rw [List.getElem?_eq_getElem hi, List.getElem?_range hi]
        simp only [Option.map_some]
        rw [goneAt_at (List.getElem?_eq_getElem hi)]
      · rw [List.getElem?_eq_none_iff.2 (by omega), List.getElem?_eq_none_iff.2 (by simp; omega)]; rfl
    have h2 := congrArg (List.countP id) this
    rw [List.countP_map, List.countP_map] at h2
    exact h2.symm
  exact key e
theorem lm_eq (h : Down e) {i : Nat} {x : El} (hx : e[i]? = some x) : lmE e i = match x.left with | [] => i | c :: _ => lmE e c := by
  have key : ∀ k k' i, e.length ≤ k + i → e.length ≤ k' + i → lmF e k i = lmF e k' i := by
    intro k
    induction k with
    | zero =>
      intro k' i h1 _
      have : e[i]? = none := List.getElem?_eq_none_iff.2 (by omega)
      cases k' <;> simp [lmF, this]
    | succ k ih =>
      intro k' i h1 h2
      cases k' with
      | zero =>
        have : e[i]? = none := List.getElem?_eq_none_iff.2 (by omega)
        simp [lmF, this]
      | succ k' =>
        rw [lmF, lmF]
        cases hx : e[i]? with
        | none => rfl
        | some x =>
          cases hl : x.left with
          | nil => simp [hl]
          | cons c r =>
            have := h i x hx c (.inl (by simp [hl]))
            simp only [hl]
            exact ih k' c (by omega) (by omega)
  have hi := (List.getElem?_eq_some_iff.1 hx).1
  obtain ⟨k, hk⟩ : ∃ k, e.length = k + 1 := ⟨e.length - 1, by omega⟩
  rw [lmE, hk, lmF, hx]
  cases hl : x.left with
  | nil => simp only [hl]
  | cons c r =>
    have := h i x hx c (.inl (by simp [hl]))
    simp only [hl]
    exact key k e.length c (by omega) (by omega)
theorem lm_head (h : Down e) : ∀ i, i < e.length → ∃ l, walkE e i = lmE e i :: l := by
  refine down_ind h fun i x hx ih => ?_
  rw [walkE_eq h hx, lm_eq h hx]
  cases hl : x.left with
  | nil => exact ⟨_, rfl⟩
  | cons c r =>
    obtain ⟨l, hl'⟩ := ih c (.inl (by simp [hl])) (h i x hx c (.inl (by simp [hl]))).2
    refine ⟨l ++ r.flatMap (walkE e) ++ i :: x.right.flatMap (walkE e), ?_⟩
    simp only [List.flatMap_cons, hl']
    simp
theorem lm_left (h : Down e) : ∀ i, i < e.length → lmE e i < e.length ∧ ((e[lmE e i]?).map El.left).getD [] = [] := by
  refine down_ind h fun i x hx ih => ?_
  rw [lm_eq h hx]
  cases hl : x.left with
  | nil => simp only; exact ⟨(List.getElem?_eq_some_iff.1 hx).1, by rw [hx]; simp [hl]⟩
  | cons c r => exact ih c (.inl (by simp [hl])) (h i x hx c (.inl (by simp [hl]))).2
/-- Behind a there comes b. -/
def Fol (a b : Nat) (l : List Nat) : Prop := ∀ x y, l = x ++ a :: y → ∃ z, y = b :: z
theorem Fol.app {a b : Nat} {l m : List Nat} (hl : Fol a b l) (hm : Fol a b m) : Fol a b (l ++ m) := by
  intro x y he
  rcases List.append_eq_append_iff.1 he with ⟨t, h1, h2⟩ | ⟨t, h1, h2⟩
  · exact hm t y h2
  · cases t with
    | nil => exact hm [] y h2.symm
    | cons c t =>
      simp only [List.cons_append, List.cons.injEq] at h2
      obtain ⟨rfl, h2⟩ := h2
      obtain ⟨z, rfl⟩ := hl x t h1
      exact ⟨z ++ m, h2⟩
theorem Fol.flat {a b : Nat} {l : List Nat} {f : Nat → List Nat} (h : ∀ c ∈ l, Fol a b (f c)) : Fol a b (l.flatMap f) := by
  induction l with
  | nil => intro x y he; cases x <;> cases he
  | cons c r ih => rw [List.flatMap_cons]; exact (h c (by simp)).app (ih fun d hd => h d (by simp [hd]))
theorem Fol.one {a b c : Nat} (h : c ≠ a) : Fol a b [c] := by
  intro x y he
  cases x with
  | nil => simp at he; exact absurd he.1 h
  | cons d x => simp at he
theorem order_fol (h : Down e) {a c : Nat} {r : List Nat} (hr : ((e[a]?).map El.right).getD [] = c :: r) : ∀ i, i < e.length → Fol a (lmE e c) (walkE e i) := by
  refine down_ind h fun i x hx ih => ?_
  have hd := h i x hx
  have f1 : Fol a (lmE e c) (x.left.flatMap (walkE e)) := Fol.flat fun d hd' => ih d (.inl hd') (hd d (.inl hd')).2
  have f2 : Fol a (lmE e c) (x.right.flatMap (walkE e)) := Fol.flat fun d hd' => ih d (.inr hd') (hd d (.inr hd')).2
  rw [walkE_eq h hx]
  refine f1.app ?_
  by_cases hia : i = a
  · subst hia
    rw [hx] at hr
    have hr : x.right = c :: r := hr
    obtain ⟨l, hl⟩ := lm_head h c (hd c (.inr (by simp [hr]))).2
    intro p y he
    cases p with
    | nil =>
      simp only [List.nil_append, List.cons.injEq, true_and] at he
      rw [hr, List.flatMap_cons, hl] at he
      exact ⟨l ++ r.flatMap (walkE e), by rw [← he]; rfl⟩
    | cons q p =>
      simp only [List.cons_append, List.cons.injEq] at he
      exact f2 p y he.2
  · exact (Fol.one hia).app f2
end
end Go.Fu

/- Fugue's trees: what commits make; the order in which they are added turns nothing. No condition; no program. -/
namespace Go.Fu
open Go.Fw Go.Pl
/-! ## A commit is added -/
/-- The element that an operation names, by its full name. -/
def res (id : Dig) (r : RefD) : RefD := if r.own = true then ⟨false, id, r.n⟩ else r
def insN (ops : List OpD) : Nat := ops.countP fun x => decide (x.kind = 1)
noncomputable def wrongAt (e : List El) (ops : List OpD) (i : Nat) (x : OpD) : Int := if rightI ops ((i : Int) + 1) ≠ 0 then rightI ops ((i : Int) + 1) else if refKind x.at_ = 2 ∧ atE e x.at_ = none then 5 else 0
noncomputable def wrongN (e : List El) (ops : List OpD) : Nat → Int
  | 0 => 0
  | k + 1 => if wrongN e ops k ≠ 0 then wrongN e ops k else match ops[k]? with
    | some x => wrongAt e ops k x
    | none => 0
structure Tr where
  ad : List Dig
  e : List El
def Tr.new : Tr := ⟨[], [El.root]⟩
noncomputable def wrongC (T : Tr) (id : Dig) (ops : List OpD) : Int := if id ∈ T.ad then 6 else if 2000 < ops.length ∨ 400000 < insN ops + (T.e.length - 1) then 4 else wrongN T.e ops ops.length
noncomputable def stepE (id : Dig) (e : List El) (k : Nat) (x : OpD) : List El := match atE e (res id x.at_) with
  | none => e
  | some a => if x.kind = 2 then goneE e a else growE e a x.left ⟨false, id, (k : Int) + 1⟩ x.byte
noncomputable def addN (id : Dig) (ops : List OpD) (e : List El) : Nat → List El
  | 0 => e
  | k + 1 => match ops[k]? with
    | some x => stepE id (addN id ops e k) k x
    | none => addN id ops e k
noncomputable def addT (T : Tr) (id : Dig) (ops : List OpD) : Tr := if wrongC T id ops = 0 then ⟨T.ad ++ [id], addN id ops T.e ops.length⟩ else T
theorem wrongN_stay {e : List El} {ops : List OpD} {k : Nat} (h : wrongN e ops k ≠ 0) : ∀ m, wrongN e ops (k + m) = wrongN e ops k
  | 0 => rfl
  | m + 1 => by
    have ih := wrongN_stay h m
    rw [← Nat.add_assoc, wrongN, if_pos (by rw [ih]; exact h), ih]
theorem wrongN_zero {e : List El} {ops : List OpD} {k m : Nat} (h : wrongN e ops (k + m) = 0) : wrongN e ops k = 0 := by
  by_cases h0 : wrongN e ops k = 0
  · exact h0
  · rw [wrongN_stay h0] at h; exact h
theorem wrongN_at {e : List El} {ops : List OpD} {k : Nat} {x : OpD} (hx : ops[k]? = some x) (h : wrongN e ops k = 0) : wrongN e ops (k + 1) = wrongAt e ops k x := by
  rw [wrongN, if_neg (by omega), hx]
theorem wrongN_end {e : List El} {ops : List OpD} {k : Nat} {x : OpD} (hx : ops[k]? = some x) (h : wrongN e ops k = 0) (hw : wrongAt e ops k x ≠ 0) : wrongN e ops ops.length = wrongAt e ops k x := by
  have hk := (List.getElem?_eq_some_iff.1 hx).1
  have h1 := wrongN_at hx h
  rw [show ops.length = (k + 1) + (ops.length - (k + 1)) by omega, wrongN_stay (by rw [h1]; exact hw), h1]
theorem addN_at {id : Dig} {ops : List OpD} {e : List El} {k : Nat} {x : OpD} (hx : ops[k]? = some x) : addN id ops e (k + 1) = stepE id (addN id ops e k) k x := by rw [addN, hx]
/-- What a right operation is like. -/
structure RightOp (ops : List OpD) (k : Nat) (x : OpD) : Prop where
  ref : refB x.at_ = true
  kind : (x.kind = 1 ∧ (x.left = true → x.at_ ≠ RefD.zero)) ∨ (x.kind = 2 ∧ x.at_ ≠ RefD.zero ∧ x.left = false)
  own : x.at_.own = true → 1 ≤ x.at_.n ∧ x.at_.n ≤ (k : Int) ∧ kindAt ops (x.at_.n - 1).toNat = 1
theorem right_op {ops : List OpD} {k : Nat} {x : OpD} (hx : ops[k]? = some x) (h : rightI ops ((k : Int) + 1) = 0) : RightOp ops k x := by
  have hk := (List.getElem?_eq_some_iff.1 hx).1
  rw [rightI, if_neg (by omega), show (((k : Int) + 1) - 1).toNat = k by omega, hx] at h
  simp only [rightX, rootB, decide_eq_true_eq] at h
  by_cases h1 : refB x.at_ = false
  · rw [if_pos h1] at h; omega
  rw [if_neg h1] at h
  by_cases h2 : x.kind = 1 ∧ (x.left = true ∧ x.at_ = RefD.zero)
  · rw [if_pos h2] at h; omega
  rw [if_neg h2] at h
  by_cases h3 : x.kind = 2 ∧ (x.left = true ∨ (x.byte.toNat : Int) ≠ 0 ∨ x.at_ = RefD.zero)
  · rw [if_pos h3] at h; omega
  rw [if_neg h3] at h
  by_cases h4 : x.kind ≠ 1 ∧ x.kind ≠ 2
  · rw [if_pos h4] at h; omega
  rw [if_neg h4] at h
  by_cases h5 : x.at_.own = true ∧ ((k : Int) + 1 ≤ x.at_.n ∨ kindAt ops (x.at_.n - 1).toNat ≠ 1)
  · rw [if_pos h5] at h; omega
  have hr : refB x.at_ = true := by simpa using h1
  refine ⟨hr, ?_, fun ho => ?_⟩
  · by_cases hk1 : x.kind = 1
    · exact .inl ⟨hk1, fun hl hz => h2 ⟨hk1, hl, hz⟩⟩
    · have hk2 : x.kind = 2 := by
        by_cases hk2 : x.kind = 2
        · exact hk2
        · exact absurd ⟨hk1, hk2⟩ h4
      refine .inr ⟨hk2, fun hz => h3 ⟨hk2, .inr (.inr hz)⟩, ?_⟩
      cases hl : x.left with
      | false => rfl
      | true => exact absurd ⟨hk2, .inl hl⟩ h3
  · have h6 : ¬ ((k : Int) + 1 ≤ x.at_.n) := fun h6 => h5 ⟨ho, .inl h6⟩
    have h7 : kindAt ops (x.at_.n - 1).toNat = 1 := Decidable.not_not.1 fun h7 => h5 ⟨ho, .inr h7⟩
    rw [refB, ho] at hr
    simp at hr
    exact ⟨by omega, by omega, h7⟩
/-! ## Which operations made a tree -/
abbrev Coms := List (Dig × List OpD)
def InsOf (L : Coms) (r : RefD) (b : UInt8) (p : RefD) (s : Bool) : Prop := ∃ (id : Dig) (ops : List OpD) (k : Nat) (x : OpD), (id, ops) ∈ L ∧ ops[k]? = some x ∧ x.kind = 1 ∧ r = ⟨false, id, (k : Int) + 1⟩ ∧ b = x.byte ∧ p = res id x.at_ ∧ s = x.left
def DelOf (L : Coms) (r : RefD) : Prop := ∃ (id : Dig) (ops : List OpD) (k : Nat) (x : OpD), (id, ops) ∈ L ∧ ops[k]? = some x ∧ x.kind = 2 ∧ r = res id x.at_
section
variable {L : Coms} {id : Dig} {ops : List OpD} {k : Nat} {x : OpD}
theorem take_get {α : Type} {l : List α} {k j : Nat} {x y : α} (hx : l[k]? = some x) : (l.take (k + 1))[j]? = some y ↔ (l.take k)[j]? = some y ∨ (j = k ∧ y = x) := by
  rw [List.getElem?_take, List.getElem?_take]
  by_cases h1 : j < k
  · rw [if_pos h1, if_pos (by omega)]
    constructor
    · exact .inl
    · rintro (h | ⟨rfl, _⟩)
      · exact h
      · omega
  · rw [if_neg h1]
    by_cases h2 : j = k
    · subst h2; rw [if_pos (by omega), hx]; simp [eq_comm]
    · rw [if_neg (by omega)]; simp [h2]
theorem ins_step (hx : ops[k]? = some x) {r : RefD} {b : UInt8} {p : RefD} {s : Bool} : InsOf (L ++ [(id, ops.take (k + 1))]) r b p s ↔ InsOf (L ++ [(id, ops.take k)]) r b p s ∨ (x.kind = 1 ∧ r = ⟨false, id, (k : Int) + 1⟩ ∧ b = x.byte ∧ p = res id x.at_ ∧ s = x.left) := by
  constructor
  · rintro ⟨id', ops', j, y, hm, hy, h⟩
    rcases List.mem_append.1 hm with hm | hm
    · exact .inl ⟨id', ops', j, y, by simp [hm], hy, h⟩
    · simp at hm
      obtain ⟨rfl, rfl⟩ := hm
      rcases (take_get hx).1 hy with hy | ⟨rfl, rfl⟩
      · exact .inl ⟨id', _, j, y, by simp, hy, h⟩
      · exact .inr h
  · rintro (⟨id', ops', j, y, hm, hy, h⟩ | h)
    · rcases List.mem_append.1 hm with hm | hm
      · exact ⟨id', ops', j, y, by simp [hm], hy, h⟩
      · simp at hm
        obtain ⟨rfl, rfl⟩ := hm
        exact ⟨id', _, j, y, by simp, (take_get hx).2 (.inl hy), h⟩
    · exact ⟨id, _, k, x, by simp, (take_get hx).2 (.inr ⟨rfl, rfl⟩), h⟩
theorem del_step (hx : ops[k]? = some x) {r : RefD} : DelOf (L ++ [(id, ops.take (k + 1))]) r ↔ DelOf (L ++ [(id, ops.take k)]) r ∨ (x.kind = 2 ∧ r = res id x.at_) := by
  constructor
  · rintro ⟨id', ops', j, y, hm, hy, h⟩
    rcases List.mem_append.1 hm with hm | hm
    · exact .inl ⟨id', ops', j, y, by simp [hm], hy, h⟩
    · simp at hm
      obtain ⟨rfl, rfl⟩ := hm
      rcases (take_get hx).1 hy with hy | ⟨rfl, rfl⟩
      · exact .inl ⟨id', _, j, y, by simp, hy, h⟩
      · exact .inr h
  · rintro (⟨id', ops', j, y, hm, hy, h⟩ | h)
    · rcases List.mem_append.1 hm with hm | hm
      · exact ⟨id', ops', j, y, by simp [hm], hy, h⟩
      · simp at hm
        obtain ⟨rfl, rfl⟩ := hm
        exact ⟨id', _, j, y, by simp, (take_get hx).2 (.inl hy), h⟩
    · exact ⟨id, _, k, x, by simp, (take_get hx).2 (.inr ⟨rfl, rfl⟩), h⟩
theorem ins_nil {r : RefD} {b : UInt8} {p : RefD} {s : Bool} : InsOf (L ++ [(id, [])]) r b p s ↔ InsOf L r b p s := by
  constructor
  · rintro ⟨id', ops', j, y, hm, hy, h⟩
    rcases List.mem_append.1 hm with hm | hm
    · exact ⟨id', ops', j, y, hm, hy, h⟩
    · simp at hm; obtain ⟨rfl, rfl⟩ := hm; simp at hy
  · rintro ⟨id', ops', j, y, hm, hy, h⟩; exact ⟨id', ops', j, y, by simp [hm], hy, h⟩
theorem del_nil {r : RefD} : DelOf (L ++ [(id, [])]) r ↔ DelOf L r := by
  constructor
  · rintro ⟨id', ops', j, y, hm, hy, h⟩
    rcases List.mem_append.1 hm with hm | hm
    · exact ⟨id', ops', j, y, hm, hy, h⟩
    · simp at hm; obtain ⟨rfl, rfl⟩ := hm; simp at hy
  · rintro ⟨id', ops', j, y, hm, hy, h⟩; exact ⟨id', ops', j, y, by simp [hm], hy, h⟩
theorem ins_unique (hn : (L.map (·.1)).Nodup) {r : RefD} {b b' : UInt8} {p p' : RefD} {s s' : Bool} (h : InsOf L r b p s) (h' : InsOf L r b' p' s') : b = b' ∧ p = p' ∧ s = s' := by
  obtain ⟨id, ops, k, x, hm, hx, _, hr, rfl, rfl, rfl⟩ := h
  obtain ⟨id', ops', k', x', hm', hx', _, hr', rfl, rfl, rfl⟩ := h'
  rw [hr] at hr'
  injection hr' with _ h1 h2
  have hk : k = k' := by omega
  subst h1; subst hk
  obtain ⟨i, hi⟩ := List.mem_iff_getElem?.1 hm
  obtain ⟨j, hj⟩ := List.mem_iff_getElem?.1 hm'
  have h1 : (L.map (·.1))[i]? = some id := by simp [hi]
  have h2 : (L.map (·.1))[j]? = some id := by simp [hj]
  have hij := (List.getElem?_inj (by simpa using (List.getElem?_eq_some_iff.1 hi).1) hn).1 (h1.trans h2.symm)
  subst hij
  rw [hi] at hj
  injection hj with hj; injection hj with _ hj; subst hj
  rw [hx] at hx'; injection hx' with hx'; subst hx'
  exact ⟨rfl, rfl, rfl⟩
end
/-- The tree is what these commits' operations make. -/
structure Built (L : Coms) (e : List El) : Prop where
  names : ∀ r, (∃ x ∈ e, x.name = r) ↔ r = RefD.zero ∨ ∃ b p s, InsOf L r b p s
  byte : ∀ (i : Nat) (x : El), 0 < i → e[i]? = some x → ∃ p s, InsOf L x.name x.byte p s
  gone : ∀ x ∈ e, x.gone = true ↔ x.name = RefD.zero ∨ DelOf L x.name
  left : ∀ x ∈ e, ∀ r, r ∈ nms e x.left ↔ ∃ b, InsOf L r b x.name true
  right : ∀ x ∈ e, ∀ r, r ∈ nms e x.right ↔ ∃ b, InsOf L r b x.name false
  par : ∀ r b p s, InsOf L r b p s → ∃ x ∈ e, x.name = p
  dpar : ∀ r, DelOf L r → ∃ x ∈ e, x.name = r
theorem built_root : Built [] [El.root] where
  names r := by
    constructor
    · rintro ⟨x, hx, rfl⟩; simp at hx; subst hx; exact .inl rfl
    · rintro (rfl | ⟨b, p, s, id, ops, k, x, hm, _⟩)
      · exact ⟨El.root, by simp, rfl⟩
      · cases hm
  byte i x hi hx := by
    cases i with
    | zero => omega
    | succ i => simp at hx
  gone x hx := by simp at hx; subst hx; exact ⟨fun _ => .inl rfl, fun _ => rfl⟩
  left x hx r := by
    simp at hx; subst hx
    constructor
    · intro h; simp [El.root] at h
    · rintro ⟨b, id, ops, k, x, hm, _⟩; cases hm
  right x hx r := by
    simp at hx; subst hx
    constructor
    · intro h; simp [El.root] at h
    · rintro ⟨b, id, ops, k, x, hm, _⟩; cases hm
  par r b p s := by rintro ⟨id, ops, k, x, hm, _⟩; cases hm
  dpar r := by rintro ⟨id, ops, k, x, hm, _⟩; cases hm
section
variable {L L' : Coms} {e : List El}
theorem Built.congr (h : Built L e) (hi : ∀ r b p s, InsOf L' r b p s ↔ InsOf L r b p s) (hd : ∀ r, DelOf L' r ↔ DelOf L r) : Built L' e where
  names r := by rw [h.names]; simp only [hi]
  byte i x h0 hx := by simp only [hi]; exact h.byte i x h0 hx
  gone x hx := by rw [h.gone x hx, hd]
  left x hx r := by rw [h.left x hx]; simp only [hi]
  right x hx r := by rw [h.right x hx]; simp only [hi]
  par r b p s hh := h.par r b p s ((hi r b p s).1 hh)
  dpar r hh := h.dpar r ((hd r).1 hh)
theorem Built.start (h : Built L e) (id : Dig) (ops : List OpD) : Built (L ++ [(id, ops.take 0)]) e := h.congr (fun _ _ _ _ => ins_nil) (fun _ => del_nil)
theorem Built.del (hb : Built L e) (g : Good e) {a : Nat} {z : El} (hz : e[a]? = some z) (hi : ∀ r b p s, InsOf L' r b p s ↔ InsOf L r b p s) (hd : ∀ r, DelOf L' r ↔ DelOf L r ∨ r = z.name) : Built L' (goneE e a) := by
  have hmem : ∀ y, y ∈ goneE e a ↔ ∃ i x, e[i]? = some x ∧ y = if i = a then { x with gone := true } else x := fun y => by
    rw [List.mem_iff_getElem?]
    constructor
    · rintro ⟨i, hy⟩
      rw [gone_at] at hy
      obtain ⟨x, hx, rfl⟩ := Option.map_eq_some_iff.1 hy
      exact ⟨i, x, hx, rfl⟩
    · rintro ⟨i, x, hx, rfl⟩; exact ⟨i, by rw [gone_at, hx]; rfl⟩
  have hnm : ∀ (i : Nat) (x : El), (if i = a then { x with gone := true } else x).name = x.name := fun i x => by split <;> rfl
  have hf : nm (goneE e a) = nm e := funext fun i => gone_nm
  have hold : ∀ p, (∃ x ∈ e, x.name = p) → ∃ x ∈ goneE e a, x.name = p := by
    rintro p ⟨x, hx, rfl⟩
    obtain ⟨i, hx⟩ := List.mem_iff_getElem?.1 hx
    exact ⟨_, (hmem _).2 ⟨i, x, hx, rfl⟩, hnm i x⟩
  refine ⟨fun r => ?_, fun i y h0 hy => ?_, fun y hy => ?_, fun y hy r => ?_, fun y hy r => ?_, fun r b p s hh => hold _ (hb.par r b p s ((hi r b p s).1 hh)), fun r hh => ?_⟩
  · simp only [hi, ← hb.names]
    constructor
    · rintro ⟨y, hy, rfl⟩
      obtain ⟨i, x, hx, rfl⟩ := (hmem y).1 hy
      exact ⟨x, List.mem_of_getElem? hx, (hnm i x).symm⟩
    · rintro ⟨x, hx, rfl⟩
      obtain ⟨i, hx⟩ := List.mem_iff_getElem?.1 hx
      exact ⟨_, (hmem _).2 ⟨i, x, hx, rfl⟩, hnm i x⟩
  · rw [gone_at] at hy
    obtain ⟨x, hx, rfl⟩ := Option.map_eq_some_iff.1 hy
    simp only [hi]
    have := hb.byte i x h0 hx
    split <;> exact this
  · obtain ⟨i, x, hx, rfl⟩ := (hmem y).1 hy
    have h1 := hb.gone x (List.mem_of_getElem? hx)
    rw [hnm, hd]
    by_cases h : i = a
    · subst h
      rw [hx] at hz; injection hz with hz; subst hz
      simp
    · rw [if_neg h, h1]
      have : x.name ≠ z.name := fun hn => h (g.inj hx hz hn)
      simp [this]
  · obtain ⟨i, x, hx, rfl⟩ := (hmem y).1 hy
    have h1 := hb.left x (List.mem_of_getElem? hx) r
    rw [nms, hf, hnm]
    simp only [hi]
    split <;> exact h1
  · obtain ⟨i, x, hx, rfl⟩ := (hmem y).1 hy
    have h1 := hb.right x (List.mem_of_getElem? hx) r
    rw [nms, hf, hnm]
    simp only [hi]
    split <;> exact h1
  · rcases (hd r).1 hh with h | rfl
    · exact hold _ (hb.dpar r h)
    · exact hold _ ⟨z, List.mem_of_getElem? hz, rfl⟩
theorem Built.ins (hb : Built L e) (g : Good e) {a : Nat} {z : El} (hz : e[a]? = some z) {r0 : RefD} {b0 : UInt8} {s0 : Bool} (hr : atE e r0 = none)
    (hi : ∀ r b p s, InsOf L' r b p s ↔ InsOf L r b p s ∨ (r = r0 ∧ b = b0 ∧ p = z.name ∧ s = s0)) (hd : ∀ r, DelOf L' r ↔ DelOf L r) (h0 : r0 ≠ RefD.zero) : Built L' (growE e a s0 r0 b0) := by
  have ha := (List.getElem?_eq_some_iff.1 hz).1
  have hr' := atE_none.1 hr
  have hdn : ¬ DelOf L r0 := fun h => by obtain ⟨x, hx, hn⟩ := hb.dpar r0 h; exact hr' x hx hn
  have hmem : ∀ y, y ∈ growE e a s0 r0 b0 ↔ y = ⟨r0, b0, false, [], []⟩ ∨ ∃ i x, e[i]? = some x ∧ y = if i = a then x.more e s0 r0 else x := fun y => by
    rw [List.mem_iff_getElem?]
    constructor
    · rintro ⟨i, hy⟩
      rcases grow_inv ha hy with ⟨_, h⟩ | ⟨x, hx, h⟩
      · exact .inl h
      · exact .inr ⟨i, x, hx, h⟩
    · rintro (rfl | ⟨i, x, hx, rfl⟩)
      · exact ⟨_, grow_new ha⟩
      · exact ⟨i, grow_old hx⟩
  have hmn : ∀ x : El, (x.more e s0 r0).name = x.name ∧ (x.more e s0 r0).byte = x.byte ∧ (x.more e s0 r0).gone = x.gone := fun x => by unfold El.more; split <;> exact ⟨rfl, rfl, rfl⟩
  have hnm : ∀ (i : Nat) (x : El), (if i = a then x.more e s0 r0 else x).name = x.name := fun i x => by split <;> first | exact (hmn x).1 | rfl
  have hold : ∀ p, (∃ x ∈ e, x.name = p) → ∃ x ∈ growE e a s0 r0 b0, x.name = p := by
    rintro p ⟨x, hx, rfl⟩
    obtain ⟨i, hx⟩ := List.mem_iff_getElem?.1 hx
    exact ⟨_, (hmem _).2 (.inr ⟨i, x, hx, rfl⟩), hnm i x⟩
  have hf : ∀ l : List Nat, (∀ c ∈ l, c < e.length) → nms (growE e a s0 r0 b0) l = nms e l := fun l hl => List.map_congr_left fun c hc => by rw [grow_nm ha, if_neg (by have := hl c hc; omega)]
  have hk : ∀ l : List Nat, (∀ c ∈ l, c < e.length) → ∀ r, r ∈ nms (growE e a s0 r0 b0) (kid e r0 l) ↔ r ∈ nms e l ∨ r = r0 := fun l hl r => by
    rw [← hf l hl]
    simp only [List.mem_map, kid, putN_mem]
    constructor
    · rintro ⟨c, rfl | hc, rfl⟩
      · rw [grow_nm ha, if_pos rfl]; exact .inr rfl
      · exact .inl ⟨c, hc, rfl⟩
    · rintro (⟨c, hc, rfl⟩ | rfl)
      · exact ⟨c, .inr hc, rfl⟩
      · exact ⟨e.length, .inl rfl, by rw [grow_nm ha, if_pos rfl]⟩
  have hkids : ∀ (sd : Bool) (side : El → List Nat), (side = if sd = true then El.left else El.right) → (∀ x ∈ e, ∀ r, r ∈ nms e (side x) ↔ ∃ b, InsOf L r b x.name sd) → ∀ y ∈ growE e a s0 r0 b0, ∀ r, r ∈ nms (growE e a s0 r0 b0) (side y) ↔ ∃ b, InsOf L' r b y.name sd := by
    intro sd side hsd hold y hy r
    simp only [hi]
    rcases (hmem y).1 hy with rfl | ⟨i, x, hx, rfl⟩
    · have h1 : side ⟨r0, b0, false, [], []⟩ = [] := by rw [hsd]; split <;> rfl
      rw [h1]
      simp only [List.map_nil, List.not_mem_nil, false_iff]
      rintro ⟨b, h | ⟨_, _, h, _⟩⟩
      · obtain ⟨w, hw, hn⟩ := hb.par _ _ _ _ h; exact hr' w hw hn
      · exact hr' z (List.mem_of_getElem? hz) h.symm
    · have hxm := List.mem_of_getElem? hx
      have h1 := hold x hxm r
      have hd' := g.down i x hx
      have hl : ∀ c ∈ side x, c < e.length := fun c hc => by
        rw [hsd] at hc
        split at hc
        · exact (hd' c (.inl hc)).2
        · exact (hd' c (.inr hc)).2
      rw [hnm]
      by_cases hia : i = a
      · subst hia
        rw [hx] at hz; injection hz with hz; subst hz
        rw [if_pos rfl]
        by_cases hs : s0 = sd
        · have h2 : side (x.more e s0 r0) = kid e r0 (side x) := by
            rw [hsd]; unfold El.more
            cases sd <;> simp [hs]
          rw [h2, hk _ hl, h1]
          constructor
          · rintro (⟨b, h⟩ | rfl)
            · exact ⟨b, .inl h⟩
            · exact ⟨b0, .inr ⟨rfl, rfl, rfl, hs.symm⟩⟩
          · rintro ⟨b, h | ⟨rfl, _⟩⟩
            · exact .inl ⟨b, h⟩
            · exact .inr rfl
        · have h2 : side (x.more e s0 r0) = side x := by
            rw [hsd]; unfold El.more
            cases sd <;> cases s0 <;> first | rfl | exact absurd rfl hs
          rw [h2, hf _ hl, h1]
          constructor
          · rintro ⟨b, h⟩; exact ⟨b, .inl h⟩
          · rintro ⟨b, h | ⟨_, _, _, h⟩⟩
            · exact ⟨b, h⟩
            · exact absurd h.symm hs
      · rw [if_neg hia, hf _ hl, h1]
        constructor
        · rintro ⟨b, h⟩; exact ⟨b, .inl h⟩
        · rintro ⟨b, h | ⟨_, _, h, _⟩⟩
          · exact ⟨b, h⟩
          · exact absurd (g.inj hx hz h) hia
  refine ⟨fun r => ?_, fun i y hi0 hy => ?_, fun y hy => ?_, hkids true El.left rfl hb.left, hkids false El.right rfl hb.right, fun r b p s hh => ?_, fun r hh => ?_⟩
  · simp only [hi]
    constructor
    · rintro ⟨y, hy, rfl⟩
      rcases (hmem y).1 hy with rfl | ⟨i, x, hx, rfl⟩
      · exact .inr ⟨b0, z.name, s0, .inr ⟨rfl, rfl, rfl, rfl⟩⟩
      · rw [hnm]
        rcases (hb.names x.name).1 ⟨x, List.mem_of_getElem? hx, rfl⟩ with h | ⟨b, p, s, h⟩
        · exact .inl h
        · exact .inr ⟨b, p, s, .inl h⟩
    · rintro (rfl | ⟨b, p, s, h | ⟨rfl, _⟩⟩)
      · obtain ⟨x, hx, hn⟩ := (hb.names RefD.zero).2 (.inl rfl)
        obtain ⟨i, hx⟩ := List.mem_iff_getElem?.1 hx
        exact ⟨_, (hmem _).2 (.inr ⟨i, x, hx, rfl⟩), (hnm i x).trans hn⟩
      · obtain ⟨x, hx, hn⟩ := (hb.names r).2 (.inr ⟨b, p, s, h⟩)
        obtain ⟨i, hx⟩ := List.mem_iff_getElem?.1 hx
        exact ⟨_, (hmem _).2 (.inr ⟨i, x, hx, rfl⟩), (hnm i x).trans hn⟩
      · exact ⟨_, (hmem _).2 (.inl rfl), rfl⟩
  · simp only [hi]
    rcases grow_inv ha hy with ⟨_, rfl⟩ | ⟨x, hx, rfl⟩
    · exact ⟨z.name, s0, .inr ⟨rfl, rfl, rfl, rfl⟩⟩
    · obtain ⟨p, s, h⟩ := hb.byte i x hi0 hx
      refine ⟨p, s, .inl ?_⟩
      split
      · rw [(hmn x).1, (hmn x).2.1]; exact h
      · exact h
  · rw [hd]
    rcases (hmem y).1 hy with rfl | ⟨i, x, hx, rfl⟩
    · simp [h0, hdn]
    · have h1 := hb.gone x (List.mem_of_getElem? hx)
      rw [hnm, ← h1]
      split
      · rw [(hmn x).2.2]
      · rfl
  · rcases (hi r b p s).1 hh with h | ⟨_, _, rfl, _⟩
    · exact hold _ (hb.par r b p s h)
    · exact hold _ ⟨z, List.mem_of_getElem? hz, rfl⟩
  · exact hold _ (hb.dpar r ((hd r).1 hh))
end
end Go.Fu
namespace Go.Fu
open Go.Fw Go.Pl
/-! ## Adding keeps what a tree is -/
theorem wrongAt_zero {e : List El} {ops : List OpD} {k : Nat} {x : OpD} (h : wrongAt e ops k x = 0) : rightI ops ((k : Int) + 1) = 0 ∧ (refKind x.at_ = 2 → ∃ a, atE e x.at_ = some a) := by
  unfold wrongAt at h
  by_cases h1 : rightI ops ((k : Int) + 1) ≠ 0
  · rw [if_pos h1] at h; exact absurd h h1
  · rw [if_neg h1] at h
    refine ⟨Decidable.not_not.1 h1, fun h2 => ?_⟩
    cases h3 : atE e x.at_ with
    | some a => exact ⟨a, rfl⟩
    | none => rw [if_pos ⟨h2, h3⟩] at h; omega
theorem wrongN_get {e : List El} {ops : List OpD} (h : wrongN e ops ops.length = 0) {k : Nat} {x : OpD} (hx : ops[k]? = some x) : wrongAt e ops k x = 0 := by
  have hk := (List.getElem?_eq_some_iff.1 hx).1
  have h1 : wrongN e ops (k + 1) = 0 := wrongN_zero (m := ops.length - (k + 1)) (by rw [show k + 1 + (ops.length - (k + 1)) = ops.length by omega]; exact h)
  have h0 : wrongN e ops k = 0 := wrongN_zero (m := 1) h1
  rw [wrongN_at hx h0] at h1; exact h1
theorem wrongC_zero {T : Tr} {id : Dig} {ops : List OpD} (h : wrongC T id ops = 0) : id ∉ T.ad ∧ ops.length ≤ 2000 ∧ insN ops + (T.e.length - 1) ≤ 400000 ∧ wrongN T.e ops ops.length = 0 := by
  unfold wrongC at h
  by_cases h1 : id ∈ T.ad
  · rw [if_pos h1] at h; omega
  · rw [if_neg h1] at h
    by_cases h2 : 2000 < ops.length ∨ 400000 < insN ops + (T.e.length - 1)
    · rw [if_pos h2] at h; omega
    · rw [if_neg h2] at h
      exact ⟨h1, by omega, by omega, h⟩
theorem refB_kind {r : RefD} (h : refB r = true) (ho : r.own = false) : r = RefD.zero ∨ (refKind r = 2 ∧ r ≠ RefD.zero) := by
  obtain ⟨o, c, n⟩ := r
  simp only at ho; subst ho
  by_cases hz : (⟨false, c, n⟩ : RefD) = RefD.zero
  · exact .inl hz
  · simp [refB, rootB, hz] at h
    exact .inr ⟨by simp [refKind]; omega, hz⟩
theorem refKind_two {r : RefD} (h : refKind r = 2) : r.own = false ∧ 1 ≤ r.n ∧ r.n ≤ 2000 ∧ r ≠ RefD.zero := by
  obtain ⟨o, c, n⟩ := r
  cases o
  · simp only [refKind] at h
    split at h
    · rename_i h'; exact absurd h' (by decide)
    · split at h
      · rename_i h1
        exact ⟨rfl, h1.1, h1.2, fun hz => by injection hz with _ _ hz; omega⟩
      · split at h <;> omega
  · simp only [refKind] at h
    simp at h
    split at h <;> omega
section
variable {L : Coms} {e : List El} {id : Dig} {ops : List OpD}
theorem ins_mem {L L' : Coms} (h : ∀ c ∈ L, c ∈ L') {r : RefD} {b : UInt8} {p : RefD} {s : Bool} (hi : InsOf L r b p s) : InsOf L' r b p s := by
  obtain ⟨id, ops, k, x, hm, hh⟩ := hi; exact ⟨id, ops, k, x, h _ hm, hh⟩
theorem del_mem {L L' : Coms} (h : ∀ c ∈ L, c ∈ L') {r : RefD} (hi : DelOf L r) : DelOf L' r := by
  obtain ⟨id, ops, k, x, hm, hh⟩ := hi; exact ⟨id, ops, k, x, h _ hm, hh⟩
/-- The name that an operation adds is a new one. -/
theorem new_name {e' : List El} {k : Nat} (hb : Built (L ++ [(id, ops.take k)]) e') (hid : id ∉ L.map (·.1)) (hk : k ≤ ops.length) : atE e' ⟨false, id, (k : Int) + 1⟩ = none := by
  refine atE_none.2 fun x hx hn => ?_
  rcases (hb.names _).1 ⟨x, hx, hn⟩ with h | ⟨b, p, s, id', ops', j, y, hm, hy, _, hr, _⟩
  · injection h with _ _ h; omega
  · injection hr with _ h1 h2
    rcases List.mem_append.1 hm with hm | hm
    · subst h1; exact hid (List.mem_map.2 ⟨_, hm, rfl⟩)
    · simp at hm
      obtain ⟨_, rfl⟩ := hm
      have := (List.getElem?_eq_some_iff.1 hy).1
      rw [List.length_take] at this
      omega
/-- What an operation names is there. -/
theorem old_name {e' : List El} {k : Nat} {x : OpD} (hb0 : Built L e) (hb : Built (L ++ [(id, ops.take k)]) e') (hx : ops[k]? = some x) (hw : wrongAt e ops k x = 0) : ∃ a, atE e' (res id x.at_) = some a := by
  obtain ⟨hr, hf⟩ := wrongAt_zero hw
  have R := right_op hx hr
  refine atE_is ((hb.names _).2 ?_)
  by_cases ho : x.at_.own = true
  · obtain ⟨h1, h2, h3⟩ := R.own ho
    rw [kindAt] at h3
    cases hy : ops[(x.at_.n - 1).toNat]? with
    | none => rw [hy] at h3; simp at h3
    | some y =>
      rw [hy] at h3
      simp at h3
      refine .inr ⟨y.byte, res id y.at_, y.left, id, ops.take k, (x.at_.n - 1).toNat, y, by simp, ?_, h3, ?_, rfl, rfl, rfl⟩
      · rw [List.getElem?_take, if_pos (by omega)]; exact hy
      · rw [res, if_pos ho, show (((x.at_.n - 1).toNat : Int)) + 1 = x.at_.n by omega]
  · have ho' : x.at_.own = false := by simpa using ho
    rw [res, if_neg ho]
    rcases refB_kind R.ref ho' with h | ⟨h, _⟩
    · exact .inl h
    · obtain ⟨a, ha⟩ := hf h
      rcases (hb0.names _).1 (atE_mem ha) with h | ⟨b, p, s, h⟩
      · exact .inl h
      · exact .inr ⟨b, p, s, ins_mem (fun c hc => by simp [hc]) h⟩
theorem step_del {a k : Nat} {x : OpD} {e' : List El} (ha : atE e' (res id x.at_) = some a) (hk : x.kind = 2) : stepE id e' k x = goneE e' a := by rw [stepE, ha]; simp only; rw [if_pos hk]
theorem step_ins {a k : Nat} {x : OpD} {e' : List El} (ha : atE e' (res id x.at_) = some a) (hk : x.kind = 1) : stepE id e' k x = growE e' a x.left ⟨false, id, (k : Int) + 1⟩ x.byte := by rw [stepE, ha]; simp only; rw [if_neg (by omega)]
theorem insN_step {k : Nat} {x : OpD} (hx : ops[k]? = some x) : insN (ops.take (k + 1)) = insN (ops.take k) + if x.kind = 1 then 1 else 0 := by
  rw [take_succ' hx, insN, insN, List.countP_append]
  by_cases h : x.kind = 1 <;> simp [h]
where
  take_succ' {α : Type} {l : List α} {i : Nat} {x : α} (h : l[i]? = some x) : l.take (i + 1) = l.take i ++ [x] := by rw [List.take_add_one, h]; rfl
theorem add_upto (g : Good e) (hb : Built L e) (hid : id ∉ L.map (·.1)) (hl : ops.length ≤ 2000) (hw : wrongN e ops ops.length = 0) : ∀ k, k ≤ ops.length → Good (addN id ops e k) ∧ Built (L ++ [(id, ops.take k)]) (addN id ops e k) ∧ (addN id ops e k).length = e.length + insN (ops.take k)
  | 0, _ => ⟨g, hb.start id ops, by simp [addN, insN]⟩
  | k + 1, hk => by
    obtain ⟨g', hb', hn'⟩ := add_upto g hb hid hl hw k (by omega)
    obtain ⟨x, hx⟩ : ∃ x, ops[k]? = some x := ⟨_, List.getElem?_eq_getElem (by omega)⟩
    have hwx := wrongN_get hw hx
    obtain ⟨a, ha⟩ := old_name hb hb' hx hwx
    have R := right_op hx (wrongAt_zero hwx).1
    obtain ⟨z, hz, hzn, _⟩ := atE_some.1 ha
    have hnew := new_name hb' hid (by omega)
    rw [addN_at hx, insN_step hx]
    rcases R.kind with ⟨hk1, _⟩ | ⟨hk2, _⟩
    · rw [step_ins ha hk1, if_pos hk1]
      refine ⟨g'.grow (atE_lt ha) hnew ⟨rfl, by show (1 : Int) ≤ (k : Int) + 1; omega, by show (k : Int) + 1 ≤ 2000; omega⟩, hb'.ins g' hz hnew (fun r b p s => ?_) (fun r => ?_) (fun h => by injection h with _ _ h; omega), by rw [grow_length, hn']; omega⟩
      · rw [ins_step hx, hzn]; simp only [hk1, true_and]
      · rw [del_step hx]; simp [hk1]
    · rw [step_del ha hk2, if_neg (by omega)]
      refine ⟨g'.gone a, hb'.del g' hz (fun r b p s => ?_) (fun r => ?_), by rw [gone_length, hn']; omega⟩
      · rw [ins_step hx]; simp [hk2]
      · rw [del_step hx, hzn]; simp [hk2]
end
/-- A tree that commits made, one behind the other. -/
structure TreeOk (L : Coms) (T : Tr) : Prop where
  good : Good T.e
  built : Built L T.e
  ads : T.ad = L.map (·.1)
  nodup : (L.map (·.1)).Nodup
  length : T.e.length = 1 + (L.map fun c => insN c.2).sum
  few : T.e.length ≤ 400001
  fit : ∀ c ∈ L, c.2.length ≤ 2000 ∧ ∀ (k : Nat) (x : OpD), c.2[k]? = some x → rightI c.2 ((k : Int) + 1) = 0
  seq : ∀ P c Q, L = P ++ c :: Q → ∀ x ∈ c.2, refKind x.at_ = 2 → ∃ b p s, InsOf P x.at_ b p s
theorem treeOk_new : TreeOk [] Tr.new where
  good := good_root
  built := built_root
  ads := rfl
  nodup := List.nodup_nil
  length := rfl
  few := by show 1 ≤ 400001; omega
  fit c hc := by cases hc
  seq P c Q h := by cases P <;> cases h
theorem TreeOk.add {L : Coms} {T : Tr} {id : Dig} {ops : List OpD} (h : TreeOk L T) (hw : wrongC T id ops = 0) : TreeOk (L ++ [(id, ops)]) (addT T id ops) := by
  obtain ⟨h1, h2, h3, h4⟩ := wrongC_zero hw
  have hid : id ∉ L.map (·.1) := by rw [← h.ads]; exact h1
  obtain ⟨g, hb, hn⟩ := add_upto h.good h.built hid h2 h4 ops.length (Nat.le_refl _)
  rw [List.take_length] at hb hn
  have hp := h.good.pos
  rw [addT, if_pos hw]
  refine ⟨g, hb, by simp [h.ads], ?_, by simp only [hn, h.length, List.map_append, List.sum_append, List.map_cons, List.map_nil, List.sum_cons, List.sum_nil]; omega, by simp only; omega, fun c hc => ?_, fun P c Q he x hx hk => ?_⟩
  · rw [List.map_append, List.nodup_append]
    exact ⟨h.nodup, by simp, fun a ha b hb => by simp at hb; subst hb; rintro rfl; exact hid ha⟩
  · rcases List.mem_append.1 hc with hc | hc
    · exact h.fit c hc
    · simp at hc; subst hc
      exact ⟨h2, fun k x hx => (wrongAt_zero (wrongN_get h4 hx)).1⟩
  · rcases List.append_eq_append_iff.1 he with ⟨t, h5, h6⟩ | ⟨t, h5, h6⟩
    · cases t with
      | nil =>
        simp at h6 h5
        obtain ⟨rfl, rfl⟩ := h6
        obtain ⟨k, hx⟩ := List.mem_iff_getElem?.1 hx
        obtain ⟨a, ha⟩ := (wrongAt_zero (wrongN_get h4 hx)).2 hk
        rcases (h.built.names _).1 (atE_mem ha) with h7 | h7
        · exact absurd h7 (refKind_two hk).2.2.2
        · rw [h5]; exact h7
      | cons d t =>
        simp at h6
    · cases t with
      | nil =>
        simp at h6 h5
        obtain ⟨rfl, rfl⟩ := h6
        obtain ⟨k, hx⟩ := List.mem_iff_getElem?.1 hx
        obtain ⟨a, ha⟩ := (wrongAt_zero (wrongN_get h4 hx)).2 hk
        rcases (h.built.names _).1 (atE_mem ha) with h7 | h7
        · exact absurd h7 (refKind_two hk).2.2.2
        · rw [← h5]; exact h7
      | cons d t =>
        simp only [List.cons_append, List.cons.injEq] at h6
        obtain ⟨rfl, h6⟩ := h6
        exact h.seq P c t h5 x hx hk
theorem TreeOk.addT {L : Coms} {T : Tr} (h : TreeOk L T) (id : Dig) (ops : List OpD) : ∃ L', TreeOk L' (addT T id ops) ∧ (L' = L ∨ (wrongC T id ops = 0 ∧ L' = L ++ [(id, ops)])) := by
  by_cases hw : wrongC T id ops = 0
  · exact ⟨_, h.add hw, .inr ⟨hw, rfl⟩⟩
  · refine ⟨L, ?_, .inl rfl⟩
    rw [Fu.addT, if_neg hw]; exact h
/-! ## The order turns nothing -/
/-- What a place shows. -/
def viewE (e : List El) (i : Nat) : RefD × Bool × UInt8 := (nm e i, goneAt e i, if goneAt e i = true then 0 else byteAt e i)
theorem seen_view (e : List El) : (seenE e).map (viewE e) = ((orderE e).map (viewE e)).filter fun v => !v.2.1 := by
  rw [seenE, List.filter_map]; rfl
theorem flatMap_walks {e1 e2 : List El} : ∀ {l1 l2 : List Nat}, l1.map (nm e1) = l2.map (nm e2) → (∀ c1 ∈ l1, ∀ c2 ∈ l2, nm e1 c1 = nm e2 c2 → (walkE e1 c1).map (viewE e1) = (walkE e2 c2).map (viewE e2)) → (l1.flatMap (walkE e1)).map (viewE e1) = (l2.flatMap (walkE e2)).map (viewE e2)
  | [], [], _, _ => rfl
  | [], _ :: _, h, _ => by simp at h
  | _ :: _, [], h, _ => by simp at h
  | a :: l1, b :: l2, h, hh => by
    simp only [List.map_cons, List.cons.injEq] at h
    rw [List.flatMap_cons, List.flatMap_cons, List.map_append, List.map_append, hh a (by simp) b (by simp) h.1, flatMap_walks h.2 fun c1 h1 c2 h2 => hh c1 (by simp [h1]) c2 (by simp [h2])]
theorem same_walk {L1 L2 : Coms} {T1 T2 : Tr} (h1 : TreeOk L1 T1) (h2 : TreeOk L2 T2) (hs : ∀ c, c ∈ L1 ↔ c ∈ L2) : (orderE T1.e).map (viewE T1.e) = (orderE T2.e).map (viewE T2.e) := by
  have hI : ∀ r b p s, InsOf L1 r b p s ↔ InsOf L2 r b p s := fun r b p s => ⟨ins_mem fun c hc => (hs c).1 hc, ins_mem fun c hc => (hs c).2 hc⟩
  have hD : ∀ r, DelOf L1 r ↔ DelOf L2 r := fun r => ⟨del_mem fun c hc => (hs c).1 hc, del_mem fun c hc => (hs c).2 hc⟩
  have key : ∀ i1, i1 < T1.e.length → ∀ i2, i2 < T2.e.length → nm T1.e i1 = nm T2.e i2 → (walkE T1.e i1).map (viewE T1.e) = (walkE T2.e i2).map (viewE T2.e) := by
    refine down_ind h1.good.down fun i1 x1 hx1 ih i2 hi2 hn => ?_
    obtain ⟨x2, hx2⟩ : ∃ x, T2.e[i2]? = some x := ⟨_, List.getElem?_eq_getElem hi2⟩
    rw [nm_at hx1, nm_at hx2] at hn
    have d1 := h1.good.down i1 x1 hx1
    have d2 := h2.good.down i2 x2 hx2
    have m1 := List.mem_of_getElem? hx1
    have m2 := List.mem_of_getElem? hx2
    have s1 := h1.good.sort i1 x1 hx1
    have s2 := h2.good.sort i2 x2 hx2
    have el : nms T1.e x1.left = nms T2.e x2.left := srt_eq s1.1 s2.1 fun r => by
      rw [h1.built.left x1 m1, h2.built.left x2 m2, hn]; simp only [hI]
    have er : nms T1.e x1.right = nms T2.e x2.right := srt_eq s1.2 s2.2 fun r => by
      rw [h1.built.right x1 m1, h2.built.right x2 m2, hn]; simp only [hI]
    have eg : x1.gone = x2.gone := by
      have g1 := h1.built.gone x1 m1
      have g2 := h2.built.gone x2 m2
      rw [hn, hD, ← g2] at g1
      cases hg : x2.gone <;> simp_all
    have eb : x2.gone = true ∨ x1.byte = x2.byte := by
      by_cases h0 : i1 = 0
      · subst h0
        obtain ⟨z, hz, _, hzg⟩ := h1.good.root
        rw [hx1] at hz; injection hz with hz; subst hz
        exact .inl (eg ▸ hzg)
      · have h0' : i2 ≠ 0 := fun h => by
          have := (h2.good.zero hx2).2 h
          exact h0 ((h1.good.zero hx1).1 (hn.trans this))
        obtain ⟨p, s, hb1⟩ := h1.built.byte i1 x1 (by omega) hx1
        obtain ⟨p', s', hb2⟩ := h2.built.byte i2 x2 (by omega) hx2
        rw [hn, hI] at hb1
        exact .inr (ins_unique h2.nodup hb1 hb2).1
    have ev : viewE T1.e i1 = viewE T2.e i2 := by
      rw [viewE, viewE, nm_at hx1, nm_at hx2, goneAt_at hx1, goneAt_at hx2, byteAt_at hx1, byteAt_at hx2, hn, eg]
      rcases eb with h0 | eb
      · rw [if_pos h0, if_pos h0]
      · rw [eb]
    rw [walkE_eq h1.good.down hx1, walkE_eq h2.good.down hx2, List.map_append, List.map_append, List.map_cons, List.map_cons, ev,
      flatMap_walks el fun c1 hc1 c2 hc2 he => ih c1 (.inl hc1) (d1 c1 (.inl hc1)).2 c2 (d2 c2 (.inl hc2)).2 he,
      flatMap_walks er fun c1 hc1 c2 hc2 he => ih c1 (.inr hc1) (d1 c1 (.inr hc1)).2 c2 (d2 c2 (.inr hc2)).2 he]
  refine key 0 h1.good.pos 0 h2.good.pos ?_
  obtain ⟨z1, hz1, hn1, _⟩ := h1.good.root
  obtain ⟨z2, hz2, hn2, _⟩ := h2.good.root
  rw [nm_at hz1, nm_at hz2, hn1, hn2]
end Go.Fu

/- Fugue's trees: which commits are taken, runs at a gap, deletions, what stays. No condition; no program. -/
namespace Go.Fu
open Go.Fw Go.Pl
/-! ## Which commits are taken in the end -/
theorem sum_erase {α : Type} [BEq α] [LawfulBEq α] (f : α → Nat) : ∀ {l : List α} {a : α}, a ∈ l → (l.map f).sum = f a + ((l.erase a).map f).sum
  | [], a, h => by cases h
  | x :: l, a, h => by
    by_cases e : x = a
    · subst e; simp
    · rw [List.erase_cons_tail (by simpa using e)]
      have := sum_erase f (l := l) (a := a) (by rcases List.mem_cons.1 h with h | h; exact absurd h.symm e; exact h)
      simp only [List.map_cons, List.sum_cons]; omega
theorem sum_sub {α : Type} [BEq α] [LawfulBEq α] (f : α → Nat) : ∀ {l m : List α}, l.Nodup → (∀ x ∈ l, x ∈ m) → (l.map f).sum ≤ (m.map f).sum
  | [], _, _, _ => Nat.zero_le _
  | x :: l, m, hn, h => by
    have hn' := List.nodup_cons.1 hn
    have hx := h x (by simp)
    rw [sum_erase f hx, List.map_cons, List.sum_cons]
    have := sum_sub f (l := l) (m := m.erase x) hn'.2 fun y hy => (List.mem_erase_of_ne (fun e => hn'.1 (by rw [← e]; exact hy))).2 (h y (by simp [hy]))
    omega
theorem nodup_of_map {α β : Type} {f : α → β} {l : List α} (h : (l.map f).Nodup) : l.Nodup := by
  induction l with
  | nil => exact List.nodup_nil
  | cons x r ih =>
    have := List.nodup_cons.1 h
    exact List.nodup_cons.2 ⟨fun hx => this.1 (List.mem_map_of_mem hx), ih this.2⟩
theorem fst_inj {l : Coms} (h : (l.map (·.1)).Nodup) {c d : Dig × List OpD} (hc : c ∈ l) (hd : d ∈ l) (he : c.1 = d.1) : c = d := by
  obtain ⟨i, hi⟩ := List.mem_iff_getElem?.1 hc
  obtain ⟨j, hj⟩ := List.mem_iff_getElem?.1 hd
  have h1 : (l.map (·.1))[i]? = some c.1 := by simp [hi]
  have h2 : (l.map (·.1))[j]? = some c.1 := by simp [hj, he]
  have := (List.getElem?_inj (by simpa using (List.getElem?_eq_some_iff.1 hi).1) h).1 (h1.trans h2.symm)
  subst this
  rw [hi] at hj; injection hj
theorem wrongN_first {e : List El} {ops : List OpD} : ∀ {k : Nat}, wrongN e ops k ≠ 0 → ∃ j x, j < k ∧ ops[j]? = some x ∧ wrongAt e ops j x ≠ 0
  | 0, h => absurd rfl h
  | k + 1, h => by
    by_cases h0 : wrongN e ops k = 0
    · cases hx : ops[k]? with
      | none => rw [wrongN, if_neg (by omega), hx] at h; exact absurd rfl h
      | some x => rw [wrongN_at hx h0] at h; exact ⟨k, x, by omega, hx, h⟩
    · obtain ⟨j, x, hj, hh⟩ := wrongN_first h0
      exact ⟨j, x, by omega, hh⟩
/-- A list of commits of which no one more can be added has all that another such list has. -/
theorem taken_sub {l : Coms} {L1 L2 : Coms} {T1 T2 : Tr} (h1 : TreeOk L1 T1) (h2 : TreeOk L2 T2) (hl : (l.map (·.1)).Nodup) (hs : (l.map fun c => insN c.2).sum ≤ 400000) (s1 : ∀ c ∈ L1, c ∈ l) (s2 : ∀ c ∈ L2, c ∈ l) (cl : ∀ c ∈ l, wrongC T2 c.1 c.2 ≠ 0) : ∀ c ∈ L1, c ∈ L2 := by
  have key : ∀ (P : Coms) (Q : Coms), L1 = P ++ Q → ∀ c ∈ P, c ∈ L2 := by
    intro P
    have hrev : ∀ (R : Coms) (Q : Coms), L1 = R.reverse ++ Q → ∀ c ∈ R, c ∈ L2 := by
      intro R
      induction R with
      | nil => intro Q _ c hc; cases hc
      | cons d R ih =>
        intro Q he
        rw [List.reverse_cons, List.append_assoc] at he
        have ih' := ih _ he
        intro c hc
        rcases List.mem_cons.1 hc with rfl | hc
        · have hc1 : c ∈ L1 := by rw [he]; simp
          have hcl := s1 c hc1
          by_cases hin : c.1 ∈ T2.ad
          · rw [h2.ads] at hin
            obtain ⟨d, hd, hde⟩ := List.mem_map.1 hin
            rw [← fst_inj hl (s2 d hd) hcl hde]; exact hd
          · exfalso
            have hw := cl c hcl
            have hnot : c ∉ L2 := fun h => hin (by rw [h2.ads]; exact List.mem_map_of_mem h)
            have hsum : (((c :: L2).map fun c => insN c.2).sum) ≤ 400000 := Nat.le_trans (sum_sub _ (List.nodup_cons.2 ⟨hnot, nodup_of_map h2.nodup⟩) fun x hx => by
              rcases List.mem_cons.1 hx with rfl | hx
              · exact hcl
              · exact s2 x hx) hs
            rw [List.map_cons, List.sum_cons] at hsum
            have hlen := h2.length
            have hf := h1.fit c hc1
            rw [wrongC, if_neg hin, if_neg (by omega)] at hw
            obtain ⟨j, x, hj, hx, hwx⟩ := wrongN_first hw
            unfold wrongAt at hwx
            rw [if_neg (by rw [hf.2 j x hx]; decide)] at hwx
            split at hwx
            · rename_i hk
              obtain ⟨b, p, s, hi⟩ := h1.seq R.reverse c Q (by rw [he]; rfl) x (List.mem_of_getElem? hx) hk.1
              have hi2 := ins_mem (L' := L2) (fun d hd => ih' d (List.mem_reverse.1 hd)) hi
              obtain ⟨y, hy, hn⟩ := (h2.built.names _).2 (.inr ⟨b, p, s, hi2⟩)
              exact atE_none.1 hk.2 y hy hn
            · exact hwx rfl
        · exact ih' c hc
    intro Q he c hc
    exact hrev P.reverse Q (by rw [List.reverse_reverse]; exact he) c (List.mem_reverse.2 hc)
  exact key L1 [] (by simp)
theorem wrongC_there {L : Coms} {T : Tr} (h : TreeOk L T) {c : Dig × List OpD} (hc : c ∈ L) : wrongC T c.1 c.2 = 6 := by
  rw [wrongC, if_pos (by rw [h.ads]; exact List.mem_map_of_mem hc)]
/-- The names and the text of what is shown. -/
theorem same_shown {L1 L2 : Coms} {T1 T2 : Tr} (h1 : TreeOk L1 T1) (h2 : TreeOk L2 T2) (hs : ∀ c, c ∈ L1 ↔ c ∈ L2) : (seenE T1.e).map (nm T1.e) = (seenE T2.e).map (nm T2.e) ∧ textE T1.e = textE T2.e ∧ T1.e.length = T2.e.length := by
  have hv := same_walk h1 h2 hs
  have hs1 := seen_view T1.e
  have hs2 := seen_view T2.e
  rw [hv, ← hs2] at hs1
  refine ⟨?_, ?_, ?_⟩
  · have := congrArg (List.map (·.1)) hs1
    rw [List.map_map, List.map_map] at this; exact this
  · have hb : ∀ e : List El, textE e = ((seenE e).map (viewE e)).map (·.2.2) := fun e => by
      rw [List.map_map, textE]
      refine List.map_congr_left fun i hi => ?_
      show byteAt e i = if goneAt e i = true then 0 else byteAt e i
      rw [seen_gone hi]; rfl
    rw [hb, hb, hs1]
  · have := congrArg List.length hv
    rw [List.length_map, List.length_map, h1.good.perm.length_eq, h2.good.perm.length_eq, List.length_range, List.length_range] at this; exact this
/-! ## A run of bytes at a gap -/
def runOps (at_ : RefD) (left : Bool) (s : List UInt8) : List OpD := s.mapIdx fun i b => if i = 0 then ⟨1, left, at_, b⟩ else ⟨1, false, ⟨true, Dig.zero, (i : Int)⟩, b⟩
theorem run_length {at_ : RefD} {left : Bool} {s : List UInt8} : (runOps at_ left s).length = s.length := by simp [runOps]
theorem run_get {at_ : RefD} {left : Bool} {s : List UInt8} {i : Nat} {b : UInt8} (h : s[i]? = some b) : (runOps at_ left s)[i]? = some (if i = 0 then ⟨1, left, at_, b⟩ else ⟨1, false, ⟨true, Dig.zero, (i : Int)⟩, b⟩) := by
  simp [runOps, List.getElem?_mapIdx, h]
theorem run_inv {at_ : RefD} {left : Bool} {s : List UInt8} {i : Nat} {x : OpD} (h : (runOps at_ left s)[i]? = some x) : ∃ b, s[i]? = some b ∧ x = if i = 0 then ⟨1, left, at_, b⟩ else ⟨1, false, ⟨true, Dig.zero, (i : Int)⟩, b⟩ := by
  have hi : i < s.length := by have := (List.getElem?_eq_some_iff.1 h).1; rwa [run_length] at this
  obtain ⟨b, hb⟩ : ∃ b, s[i]? = some b := ⟨_, List.getElem?_eq_getElem hi⟩
  rw [run_get hb] at h
  exact ⟨b, hb, (Option.some.inj h).symm⟩
/-- Nothing is wrong with a run at an element that is there. -/
theorem run_right {e : List El} {at_ : RefD} {left : Bool} {s : List UInt8} {a : Nat} (g : Good e) (ha : atE e at_ = some a) (hl : left = true → 0 < a) : wrongN e (runOps at_ left s) (runOps at_ left s).length = 0 := by
  have hz : ∀ j x, (runOps at_ left s)[j]? = some x → wrongAt e (runOps at_ left s) j x = 0 := by
    intro j x hx
    have hj := (List.getElem?_eq_some_iff.1 hx).1
    obtain ⟨z, hz, hn, _⟩ := atE_some.1 ha
    obtain ⟨b, hb, rfl⟩ := run_inv hx
    have hR : rightI (runOps at_ left s) ((j : Int) + 1) = 0 := by
      rw [rightI, if_neg (by omega), show (((j : Int) + 1) - 1).toNat = j by omega, hx]
      simp only [rightX, rootB, decide_eq_true_eq]
      by_cases h0 : j = 0
      · subst h0
        simp only [if_true]
        have ho := g.ownF hz
        rw [hn] at ho
        have href : refB at_ = true := by
          by_cases ha0 : a = 0
          · have := (g.zero hz).2 ha0
            rw [hn] at this; rw [this]; simp [refB, rootB, RefD.zero]
          · have := g.own a z (by omega) hz
            rw [hn] at this
            simp [refB, ho, this.2.2]; omega
        rw [if_neg (by rw [href]; decide), if_neg, if_neg (by omega), if_neg (by omega), if_neg (by rw [ho]; simp)]
        rintro ⟨_, h1, h2⟩
        have := hl h1
        have := (g.zero hz).1 (hn.trans h2)
        omega
      · have hk : kindAt (runOps at_ left s) ((j : Int) - 1).toNat = 1 := by
          rw [run_length] at hj
          obtain ⟨b', hb'⟩ : ∃ b, s[j - 1]? = some b := ⟨_, List.getElem?_eq_getElem (by omega)⟩
          rw [show ((j : Int) - 1).toNat = j - 1 by omega, kindAt, run_get hb']
          simp only [Option.map_some, Option.getD_some]
          split <;> rfl
        simp only [if_neg h0]
        rw [if_neg (by simp [refB]; omega), if_neg (by simp), if_neg (by simp), if_neg (by simp), if_neg (by rw [hk]; simp; omega)]
    unfold wrongAt
    rw [if_neg (by rw [hR]; decide)]
    refine if_neg fun hk => ?_
    by_cases h0 : j = 0
    · rw [if_pos h0] at hk
      rw [ha] at hk; cases hk.2
    · rw [if_neg h0] at hk
      have := (refKind_two hk.1).1
      cases this
  by_cases h : wrongN e (runOps at_ left s) (runOps at_ left s).length = 0
  · exact h
  · obtain ⟨j, x, _, hx, hw⟩ := wrongN_first h
    exact absurd (hz j x hx) hw
theorem flat_after {l X Y : List Nat} {a n : Nat} (hl : l = X ++ a :: Y) (hn : l.Nodup) : l.flatMap (fun j => if j = a then [a, n] else [j]) = X ++ a :: n :: Y := by
  have h1 : ∀ m : List Nat, a ∉ m → m.flatMap (fun j => if j = a then [a, n] else [j]) = m := fun m hm => by
    induction m with
    | nil => rfl
    | cons b r ih => rw [List.flatMap_cons, if_neg (fun e => hm (by simp [e])), ih fun h => hm (by simp [h])]; rfl
  rw [hl] at hn
  obtain ⟨_, h3, h4⟩ := List.nodup_append.1 hn
  rw [hl, List.flatMap_append, List.flatMap_cons, if_pos rfl, h1 X (fun h => h4 a h a (by simp) rfl), h1 Y (List.nodup_cons.1 h3).1]; rfl
theorem flat_ahead {l X Y : List Nat} {a n : Nat} (hl : l = X ++ a :: Y) (hn : l.Nodup) : l.flatMap (fun j => if j = a then [n, a] else [j]) = X ++ n :: a :: Y := by
  have h1 : ∀ m : List Nat, a ∉ m → m.flatMap (fun j => if j = a then [n, a] else [j]) = m := fun m hm => by
    induction m with
    | nil => rfl
    | cons b r ih => rw [List.flatMap_cons, if_neg (fun e => hm (by simp [e])), ih fun h => hm (by simp [h])]; rfl
  rw [hl] at hn
  obtain ⟨_, h3, h4⟩ := List.nodup_append.1 hn
  rw [hl, List.flatMap_append, List.flatMap_cons, if_pos rfl, h1 X (fun h => h4 a h a (by simp) rfl), h1 Y (List.nodup_cons.1 h3).1]; rfl
/-- Where the first one of a run comes to stand, all of it does. -/
theorem run_order {e : List El} {at_ : RefD} {left : Bool} {s : List UInt8} {id : Dig} {a : Nat} {L : Coms} (g : Good e) (hb : Built L e) (hid : id ∉ L.map (·.1)) (hl : s.length ≤ 2000) (ha : atE e at_ = some a) (hown : at_.own = false) (hw : wrongN e (runOps at_ left s) (runOps at_ left s).length = 0)
    {P Q : List Nat} (hP : orderE e = P ++ Q) (h1 : ∀ b, orderE (growE e a left ⟨false, id, 1⟩ b) = P ++ e.length :: Q) : ∀ k, k ≤ s.length → orderE (addN id (runOps at_ left s) e k) = P ++ List.range' e.length k ++ Q ∧ (addN id (runOps at_ left s) e k).length = e.length + k ∧
      (∀ (j : Nat), j < k → ∃ y : El, (addN id (runOps at_ left s) e k)[e.length + j]? = some y ∧ y.name = ⟨false, id, (j : Int) + 1⟩ ∧ s[j]? = some y.byte ∧ y.gone = false ∧ (j + 1 = k → y.right = [])) ∧
      (∀ (i : Nat) (x : El), e[i]? = some x → (addN id (runOps at_ left s) e k)[i]? = some (if 0 < k ∧ i = a then x.more e left ⟨false, id, 1⟩ else x))
  | 0, _ => ⟨by simp [addN, hP], by simp [addN], fun j hj => by omega, fun i x hx => by simpa [addN] using hx⟩
  | k + 1, hk => by
    obtain ⟨i1, i2, i3, i4⟩ := run_order g hb hid hl ha hown hw hP h1 k (by omega)
    obtain ⟨b, hbk⟩ : ∃ b, s[k]? = some b := ⟨_, List.getElem?_eq_getElem (by omega)⟩
    have hx := run_get (at_ := at_) (left := left) hbk
    obtain ⟨g', hb', hn'⟩ := add_upto g hb hid (by rw [run_length]; exact hl) hw k (by rw [run_length]; omega)
    have hnew := new_name hb' hid (by rw [run_length]; omega)
    have hae := atE_lt ha
    rw [addN_at hx]
    generalize hE : addN id (runOps at_ left s) e k = e1 at *
    have fin : ∀ (q : Nat) (lf : Bool), (k = 0 ∧ e1 = e ∧ q = a ∧ lf = left) ∨ (0 < k ∧ q = e.length + (k - 1)) → orderE (growE e1 q lf ⟨false, id, (k : Int) + 1⟩ b) = P ++ List.range' e.length (k + 1) ++ Q →
        orderE (growE e1 q lf ⟨false, id, (k : Int) + 1⟩ b) = P ++ List.range' e.length (k + 1) ++ Q ∧ (growE e1 q lf ⟨false, id, (k : Int) + 1⟩ b).length = e.length + (k + 1) ∧
        (∀ (j : Nat), j < k + 1 → ∃ y : El, (growE e1 q lf ⟨false, id, (k : Int) + 1⟩ b)[e.length + j]? = some y ∧ y.name = ⟨false, id, (j : Int) + 1⟩ ∧ s[j]? = some y.byte ∧ y.gone = false ∧ (j + 1 = k + 1 → y.right = [])) ∧
        (∀ (i : Nat) (x : El), e[i]? = some x → (growE e1 q lf ⟨false, id, (k : Int) + 1⟩ b)[i]? = some (if 0 < k + 1 ∧ i = a then x.more e left ⟨false, id, 1⟩ else x)) := by
      intro q lf hq ho
      have hq' : q < e1.length := by rw [i2]; rcases hq with ⟨_, _, rfl, _⟩ | ⟨_, rfl⟩ <;> omega
      refine ⟨ho, by rw [grow_length, i2]; omega, fun j hj => ?_, fun i x hx => ?_⟩
      · by_cases hjk : j = k
        · subst hjk
          have := grow_new (left := lf) (r := ⟨false, id, (j : Int) + 1⟩) (b := b) hq'
          rw [i2] at this
          exact ⟨_, this, rfl, hbk, rfl, fun _ => rfl⟩
        · obtain ⟨y, hy, h2, h3, h4, _⟩ := i3 j (by omega)
          refine ⟨_, grow_old hy, ?_⟩
          split
          · unfold El.more; split <;> exact ⟨h2, h3, h4, fun h => by omega⟩
          · exact ⟨h2, h3, h4, fun h => by omega⟩
      · have hi := (List.getElem?_eq_some_iff.1 hx).1
        rw [grow_old (i4 i x hx)]
        rcases hq with ⟨rfl, rfl, rfl, rfl⟩ | ⟨h0, rfl⟩
        · congr 1
          by_cases hia : i = q
          · subst hia; simp
          · simp [hia]
        · rw [if_neg (by omega)]
          congr 1
          by_cases hia : i = a
          · subst hia; simp [h0]
          · simp [hia]
    by_cases h0 : k = 0
    · subst h0
      have hee : e1 = e := by rw [← hE]; rfl
      have hs : stepE id e1 0 (if 0 = 0 then ⟨1, left, at_, b⟩ else ⟨1, false, ⟨true, Dig.zero, ((0 : Nat) : Int)⟩, b⟩) = growE e1 a left ⟨false, id, ((0 : Nat) : Int) + 1⟩ b := step_ins (x := ⟨1, left, at_, b⟩) (by simp only [res, hown]; rw [hee]; exact ha) rfl
      rw [hs]
      exact fin a left (.inl ⟨rfl, hee, rfl, rfl⟩) (by rw [hee]; have := h1 b; simpa using this)
    · obtain ⟨y, hy, hyn, _, _, hyr⟩ := i3 (k - 1) (by omega)
      have hyn' : y.name = ⟨false, id, (k : Int)⟩ := by rw [hyn]; congr 1; omega
      have hat : atE e1 (res id ⟨true, Dig.zero, (k : Int)⟩) = some (e.length + (k - 1)) := by
        have := g'.find hy
        rw [hyn'] at this; exact this
      rw [if_neg h0, step_ins (x := ⟨1, false, ⟨true, Dig.zero, (k : Int)⟩, b⟩) hat rfl]
      refine fin _ _ (.inr ⟨by omega, rfl⟩) ?_
      have hkid : kid e1 ⟨false, id, (k : Int) + 1⟩ y.right = e1.length :: y.right := by
        rw [hyr (by omega)]; rfl
      have := grow_right (r := ⟨false, id, (k : Int) + 1⟩) (b := b) g'.down (atE_lt hat) hy hkid 0 g'.pos
      show walkE _ 0 = _
      rw [this]
      have h5 : List.range' e.length k = List.range' e.length (k - 1) ++ [e.length + (k - 1)] := by
        have : k = (k - 1) + 1 := by omega
        rw [this, List.range'_concat]; simp
      have hsplit : walkE e1 0 = (P ++ List.range' e.length (k - 1)) ++ (e.length + (k - 1)) :: Q := by
        have h6 : walkE e1 0 = P ++ List.range' e.length k ++ Q := i1
        rw [h6, h5]; simp
      rw [flat_after hsplit g'.nodup, i2, List.range'_concat, h5]; simp
/-- What some places show. -/
def shown (e : List El) (l : List Nat) : List UInt8 := (l.filter fun i => !goneAt e i).map (byteAt e)
theorem shown_app {e : List El} {a b : List Nat} : shown e (a ++ b) = shown e a ++ shown e b := by simp [shown]
theorem shown_same {e e' : List El} {l : List Nat} (h : ∀ i ∈ l, goneAt e' i = goneAt e i ∧ byteAt e' i = byteAt e i) : shown e' l = shown e l := by
  induction l with
  | nil => rfl
  | cons a r ih =>
    have ha := h a (by simp)
    have hr := ih fun i hi => h i (by simp [hi])
    simp only [shown, List.filter_cons, ha.1] at hr ⊢
    split
    · simp only [List.map_cons, ha.2, hr]
    · exact hr
theorem more_same (x : El) (e : List El) (s : Bool) (r : RefD) : (x.more e s r).name = x.name ∧ (x.more e s r).byte = x.byte ∧ (x.more e s r).gone = x.gone := by unfold El.more; split <;> exact ⟨rfl, rfl, rfl⟩
theorem run_shown {e' : List El} {s : List UInt8} {id : Dig} {n : Nat} (h : ∀ (j : Nat), j < s.length → ∃ y : El, e'[n + j]? = some y ∧ y.name = ⟨false, id, (j : Int) + 1⟩ ∧ s[j]? = some y.byte ∧ y.gone = false) : shown e' (List.range' n s.length) = s := by
  have key : ∀ k, k ≤ s.length → shown e' (List.range' n k) = s.take k := by
    intro k
    induction k with
    | zero => intro _; simp [shown]
    | succ k ih =>
      intro hk
      obtain ⟨y, hy, _, hb, hg⟩ := h k (by omega)
      rw [List.range'_concat, shown_app, ih (by omega), Nat.one_mul]
      have : shown e' [n + k] = [y.byte] := by simp [shown, goneAt_at hy, byteAt_at hy, hg]
      rw [this, List.take_add_one, hb]; rfl
  have := key s.length (Nat.le_refl _)
  rwa [List.take_length] at this
/-- A run's first element stands at a place of the walk: its text does. -/
theorem run_text {e : List El} {at_ : RefD} {left : Bool} {s : List UInt8} {id : Dig} {a : Nat} {L : Coms} (g : Good e) (hb : Built L e) (hid : id ∉ L.map (·.1)) (hl : s.length ≤ 2000) (ha : atE e at_ = some a) (hown : at_.own = false) (hw : wrongN e (runOps at_ left s) (runOps at_ left s).length = 0)
    {P Q : List Nat} (hP : orderE e = P ++ Q) (h1 : ∀ b, orderE (growE e a left ⟨false, id, 1⟩ b) = P ++ e.length :: Q) : textE (addN id (runOps at_ left s) e (runOps at_ left s).length) = shown e P ++ s ++ shown e Q := by
  rw [run_length]
  obtain ⟨h2, h3, h4, h5⟩ := run_order g hb hid hl ha hown hw hP h1 s.length (Nat.le_refl _)
  have hold : ∀ i, i < e.length → goneAt (addN id (runOps at_ left s) e s.length) i = goneAt e i ∧ byteAt (addN id (runOps at_ left s) e s.length) i = byteAt e i := fun i hi => by
    obtain ⟨x, hx⟩ : ∃ x, e[i]? = some x := ⟨_, List.getElem?_eq_getElem hi⟩
    rw [goneAt_at (h5 i x hx), goneAt_at hx, byteAt_at (h5 i x hx), byteAt_at hx]
    split
    · exact ⟨(more_same x _ _ _).2.2, (more_same x _ _ _).2.1⟩
    · exact ⟨rfl, rfl⟩
  have hin : ∀ i ∈ P ++ Q, i < e.length := fun i hi => order_lt g.down (by rw [hP]; exact hi)
  show shown _ (orderE _) = _
  rw [h2, shown_app, shown_app, run_shown (id := id) fun j hj => by obtain ⟨y, h⟩ := h4 j hj; exact ⟨y, h.1, h.2.1, h.2.2.1, h.2.2.2.1⟩,
    shown_same (e := e) (l := P) fun i hi => hold i (hin i (by simp [hi])), shown_same (e := e) (l := Q) fun i hi => hold i (hin i (by simp [hi]))]
/-- Nothing stands on the root's left. -/
theorem root_left {L : Coms} {T : Tr} (h : TreeOk L T) {z : El} (hz : T.e[0]? = some z) : z.left = [] := by
  cases hl : z.left with
  | nil => rfl
  | cons c r =>
    exfalso
    obtain ⟨b, id, ops, k, x, hm, hx, _, _, _, hp, hs⟩ := (h.built.left z (List.mem_of_getElem? hz) (nm T.e c)).1 (by simp [hl])
    have hz0 := (h.good.zero hz).2 rfl
    rw [hz0] at hp
    have R := right_op hx ((h.fit _ hm).2 k x hx)
    have hat : x.at_ = RefD.zero := by
      by_cases ho : x.at_.own = true
      · rw [res, if_pos ho] at hp
        have := (R.own ho).1
        injection hp with _ _ hp; omega
      · rw [res, if_neg ho] at hp; exact hp.symm
    rcases R.kind with ⟨_, h1⟩ | ⟨_, h1, _⟩
    · exact h1 hs.symm hat
    · exact h1 hat
/-- The walk parts behind the element of a gap, and the text there. -/
theorem gap_split {L : Coms} {T : Tr} (h : TreeOk L T) {n : Nat} (hn : n ≤ (seenE T.e).length) : ∃ X Y, orderE T.e = X ++ gapI T.e n :: Y ∧ gapI T.e n < T.e.length ∧ shown T.e (X ++ [gapI T.e n]) = (textE T.e).take n ∧ shown T.e Y = (textE T.e).drop n := by
  have fin : ∀ X Y a, orderE T.e = X ++ a :: Y → (shown T.e (X ++ [a])).length = n → shown T.e (X ++ [a]) = (textE T.e).take n ∧ shown T.e Y = (textE T.e).drop n := fun X Y a ho hl => by
    have ht : textE T.e = shown T.e (X ++ [a]) ++ shown T.e Y := by
      show shown T.e (orderE T.e) = _
      rw [ho, ← shown_app]; simp
    rw [ht, ← hl]; simp
  by_cases h0 : n = 0
  · subst h0
    obtain ⟨z, hz, hzn, hzg⟩ := h.good.root
    have hl := root_left h hz
    have ho : orderE T.e = [] ++ 0 :: z.right.flatMap (walkE T.e) := by rw [orderE, walkE_eq h.good.down hz, hl]; rfl
    have hg0 : gapI T.e ((0 : Nat) : Int) = 0 := by simp [gapI]
    rw [hg0]
    exact ⟨[], _, ho, h.good.pos, fin _ _ _ ho (by simp [shown, goneAt_at hz, hzg])⟩
  · obtain ⟨a, ha⟩ : ∃ a, (seenE T.e)[n - 1]? = some a := ⟨_, List.getElem?_eq_getElem (by omega)⟩
    have hg : gapI T.e (n : Int) = a := by rw [gapI, if_neg (by omega), show ((n : Int) - 1).toNat = n - 1 by omega, ha]; rfl
    have hm := List.mem_of_getElem? ha
    obtain ⟨X, Y, ho⟩ := List.append_of_mem (List.mem_filter.1 hm).1
    rw [hg]
    refine ⟨X, Y, ho, seen_lt h.good.down hm, fin X Y a ho ?_⟩
    have hs : seenE T.e = (X.filter fun i => !goneAt T.e i) ++ a :: (Y.filter fun i => !goneAt T.e i) := by
      rw [seenE, ho, List.filter_append, List.filter_cons, if_pos (by rw [seen_gone hm]; rfl)]
    have hk : (X.filter fun i => !goneAt T.e i).length = n - 1 := by
      have h1 : (seenE T.e)[(X.filter fun i => !goneAt T.e i).length]? = some a := by rw [hs]; simp
      exact ((List.getElem?_inj (by have := (List.getElem?_eq_some_iff.1 ha).1; exact this) h.good.seen_nodup).1 (ha.trans h1.symm)).symm
    simp only [shown, List.length_map, List.filter_append, List.length_append, hk]
    simp [seen_gone hm]; omega
/-- The gap's element, and that a new one there stands behind. -/
theorem gap_first {L : Coms} {T : Tr} (h : TreeOk L T) {a : Nat} {X Y : List Nat} (ho : orderE T.e = X ++ a :: Y) (ha : a < T.e.length) : ∃ A z, atE T.e (gapAt T.e a).1 = some A ∧ T.e[A]? = some z ∧ z.name = (gapAt T.e a).1 ∧ (gapAt T.e a).1.own = false ∧ ((gapAt T.e a).2 = true → 0 < A) ∧
    (((gapAt T.e a).2 = false ∧ A = a ∧ z.right = []) ∨ ((gapAt T.e a).2 = true ∧ z.left = [] ∧ ∃ Y', Y = A :: Y')) := by
  obtain ⟨x, hx⟩ : ∃ x, T.e[a]? = some x := ⟨_, List.getElem?_eq_getElem ha⟩
  have hd := h.good.down a x hx
  cases hr : x.right with
  | nil =>
    have hg : gapAt T.e a = (x.name, false) := by rw [gapAt, hx]; simp only [Option.map_some, Option.getD_some, hr]; rw [nm_at hx]
    rw [hg]
    exact ⟨a, x, h.good.find hx, hx, rfl, h.good.ownF hx, (fun h => by cases h), .inl ⟨rfl, rfl, hr⟩⟩
  | cons c r =>
    have hg : gapAt T.e a = (nm T.e (lmE T.e c), true) := by rw [gapAt, hx]; simp only [Option.map_some, Option.getD_some, hr]
    have hc := hd c (.inr (by simp [hr]))
    obtain ⟨hlt, hleft⟩ := lm_left h.good.down c hc.2
    obtain ⟨z, hz⟩ : ∃ z, T.e[lmE T.e c]? = some z := ⟨_, List.getElem?_eq_getElem hlt⟩
    rw [hz] at hleft
    obtain ⟨Y', hY⟩ := order_fol h.good.down (a := a) (c := c) (r := r) (by rw [hx]; simp [hr]) 0 h.good.pos X Y ho
    have hpos : 0 < lmE T.e c := by
      by_cases h0 : lmE T.e c = 0
      · exfalso
        have h1 : lmE T.e c ∈ Y := by rw [hY]; simp
        obtain ⟨w, hw, _⟩ := h.good.root
        have h2 : ∃ Y0, orderE T.e = 0 :: Y0 := ⟨w.right.flatMap (walkE T.e), by rw [orderE, walkE_eq h.good.down hw, root_left h hw]; rfl⟩
        obtain ⟨Y0, h2⟩ := h2
        have hnd := h.good.nodup
        rw [ho] at h2 hnd
        cases X with
        | nil => simp at h2; rw [h0, ← h2.1] at h1; exact (List.nodup_cons.1 hnd).1 h1
        | cons p X =>
          simp at h2
          have := (List.nodup_cons.1 hnd).1
          rw [h2.1] at this
          rw [h0] at h1
          exact this (by simp [h1])
      · omega
    rw [hg]
    exact ⟨_, z, by rw [nm_at hz]; exact h.good.find hz, hz, (nm_at hz).symm, by rw [nm_at hz]; exact h.good.ownF hz, fun _ => hpos, .inr ⟨rfl, hleft, Y', hY⟩⟩
/-- A run at a gap stands there. -/
theorem insert_text {L : Coms} {T : Tr} (h : TreeOk L T) {n : Nat} (hn : n ≤ (seenE T.e).length) {s : List UInt8} {id : Dig} :
    (wrongC T id (runOps (gapE T.e n).1 (gapE T.e n).2.1 s) = 0 ∨ wrongC T id (runOps (gapE T.e n).1 (gapE T.e n).2.1 s) = 6 ∨ wrongC T id (runOps (gapE T.e n).1 (gapE T.e n).2.1 s) = 4) ∧ (wrongC T id (runOps (gapE T.e n).1 (gapE T.e n).2.1 s) = 0 →
    textE (addT T id (runOps (gapE T.e n).1 (gapE T.e n).2.1 s)).e = (textE T.e).take n ++ s ++ (textE T.e).drop n) := by
  have hg : gapE T.e n = ((gapAt T.e (gapI T.e n)).1, (gapAt T.e (gapI T.e n)).2, true) := by rw [gapE, if_neg (by omega)]
  rw [hg]
  obtain ⟨X, Y, ho, ha, hX, hY⟩ := gap_split h hn
  obtain ⟨A, z, hA, hz, _, hown, hpos, hcase⟩ := gap_first h ho ha
  have hw := run_right (s := s) h.good hA hpos
  constructor
  · unfold wrongC
    split
    · exact .inr (.inl rfl)
    · split
      · exact .inr (.inr rfl)
      · exact .inl hw
  · intro hz0
    obtain ⟨h1, h2, _, _⟩ := wrongC_zero hz0
    rw [addT, if_pos hz0]
    show textE (addN id _ T.e _) = _
    rw [← hX, ← hY]
    rw [run_length] at h2
    have hAl := atE_lt hA
    refine run_text h.good h.built (by rw [← h.ads]; exact h1) h2 hA hown hw (by rw [ho]; simp) fun b => ?_
    rcases hcase with ⟨hl, rfl, hr⟩ | ⟨hl, hzl, Y', rfl⟩
    · rw [hl, orderE, grow_right h.good.down hAl hz (by rw [hr]; rfl) 0 h.good.pos, flat_after ho h.good.nodup]; simp
    · rw [hl, orderE, grow_left h.good.down hAl hz (by rw [hzl]; rfl) 0 h.good.pos, flat_ahead (X := X ++ [gapI T.e n]) (Y := Y') (by rw [← List.append_cons]; exact ho) h.good.nodup]
end Go.Fu
namespace Go.Fu
open Go.Fw Go.Pl
/-! ## Two runs at one gap -/
theorem TreeOk.keepAt {L L' : Coms} {T T' : Tr} (h : TreeOk L T) (h' : TreeOk L' T') (hs : ∀ c ∈ L, c ∈ L') {r : RefD} {A : Nat} (hA : atE T.e r = some A) : ∃ A', atE T'.e r = some A' ∧ (0 < A → 0 < A') := by
  have hn : ∃ x ∈ T'.e, x.name = r := by
    rw [h'.built.names]
    rcases (h.built.names r).1 (atE_mem hA) with hz | ⟨b, p, s, hi⟩
    · exact .inl hz
    · exact .inr ⟨b, p, s, ins_mem hs hi⟩
  obtain ⟨A', hA'⟩ := atE_is hn
  refine ⟨A', hA', fun h0 => ?_⟩
  obtain ⟨x, hx, hxn, _⟩ := atE_some.1 hA
  obtain ⟨y, hy, hyn, _⟩ := atE_some.1 hA'
  by_cases h1 : A' = 0
  · have := (h'.good.zero hy).2 h1
    rw [hyn, ← hxn] at this
    have := (h.good.zero hx).1 this
    omega
  · omega
theorem two_text {L : Coms} {T : Tr} (h : TreeOk L T) {n : Nat} (hn : n ≤ (seenE T.e).length) {s0 s1 : List UInt8} {id0 id1 : Dig}
    (w0 : wrongC T id0 (runOps (gapE T.e n).1 (gapE T.e n).2.1 s0) = 0) (w1 : wrongC (addT T id0 (runOps (gapE T.e n).1 (gapE T.e n).2.1 s0)) id1 (runOps (gapE T.e n).1 (gapE T.e n).2.1 s1) = 0)
    (hc : s0 ≠ [] → ((gapE T.e n).2.1 = false ∧ nameLt ⟨false, id1, 1⟩ ⟨false, id0, 1⟩ = true) ∨ ((gapE T.e n).2.1 = true ∧ nameLt ⟨false, id0, 1⟩ ⟨false, id1, 1⟩ = true)) :
    textE (addT (addT T id0 (runOps (gapE T.e n).1 (gapE T.e n).2.1 s0)) id1 (runOps (gapE T.e n).1 (gapE T.e n).2.1 s1)).e = (textE T.e).take n ++ s0 ++ s1 ++ (textE T.e).drop n ∨
    textE (addT (addT T id0 (runOps (gapE T.e n).1 (gapE T.e n).2.1 s0)) id1 (runOps (gapE T.e n).1 (gapE T.e n).2.1 s1)).e = (textE T.e).take n ++ s1 ++ s0 ++ (textE T.e).drop n := by
  have hg : gapE T.e n = ((gapAt T.e (gapI T.e n)).1, (gapAt T.e (gapI T.e n)).2, true) := by rw [gapE, if_neg (by omega)]
  by_cases h0 : s0 = []
  · subst h0
    have h1 := h.add w0
    have he : addT T id0 (runOps (gapE T.e n).1 (gapE T.e n).2.1 []) = ⟨T.ad ++ [id0], T.e⟩ := by rw [addT, if_pos w0]; rfl
    rw [he] at h1 w1 ⊢
    have := (insert_text h1 hn (s := s1) (id := id1)).2 w1
    left
    rw [List.append_nil]; exact this
  rw [hg] at w0 w1 hc ⊢
  simp only at w0 w1 hc ⊢
  obtain ⟨X, Y, ho, ha, hX, hY⟩ := gap_split h hn
  obtain ⟨A, z, hA, hz, hzn, hown, hpos, hcase⟩ := gap_first h ho ha
  generalize gapI T.e n = a at *
  generalize (gapAt T.e a).1 = at_ at *
  generalize (gapAt T.e a).2 = left at *
  have hAl := atE_lt hA
  obtain ⟨i1, i2, _, i4⟩ := wrongC_zero w0
  rw [run_length] at i2
  have hid0 : id0 ∉ L.map (·.1) := by rw [← h.ads]; exact i1
  have hP : orderE T.e = (X ++ [a]) ++ Y := by rw [ho]; simp
  have h1st : ∀ b, orderE (growE T.e A left ⟨false, id0, 1⟩ b) = (X ++ [a]) ++ T.e.length :: Y := fun b => by
    rcases hcase with ⟨hl, rfl, hr⟩ | ⟨hl, hzl, Y', rfl⟩
    · rw [hl, orderE, grow_right h.good.down hAl hz (by rw [hr]; rfl) 0 h.good.pos, flat_after ho h.good.nodup]; simp
    · rw [hl, orderE, grow_left h.good.down hAl hz (by rw [hzl]; rfl) 0 h.good.pos, flat_ahead (X := X ++ [a]) (Y := Y') (by rw [← List.append_cons]; exact ho) h.good.nodup]
  obtain ⟨o1, l1, n1, k1⟩ := run_order h.good h.built hid0 i2 hA hown i4 hP h1st s0.length (Nat.le_refl _)
  have T1 := h.add w0
  have e1eq : (addT T id0 (runOps at_ left s0)).e = addN id0 (runOps at_ left s0) T.e s0.length := by rw [addT, if_pos w0, run_length]
  generalize addT T id0 (runOps at_ left s0) = U at *
  rw [← e1eq] at o1 l1 n1 k1
  have hlen : 0 < s0.length := List.length_pos_iff.2 h0
  have hzA := k1 A z hz
  rw [if_pos ⟨hlen, rfl⟩] at hzA
  have hA1 : atE U.e at_ = some A := by
    have := T1.good.find hzA
    rw [(more_same z _ _ _).1, hzn] at this; exact this
  obtain ⟨j1, j2, _, j4⟩ := wrongC_zero w1
  rw [run_length] at j2
  obtain ⟨y0, hy0, hy0n, _⟩ := n1 0 hlen
  have hnm0 : nm U.e T.e.length = ⟨false, id0, 1⟩ := by
    have := nm_at hy0
    rw [Nat.add_zero] at this
    rw [this, hy0n]; congr 1
  have hold : ∀ i, i < T.e.length → goneAt U.e i = goneAt T.e i ∧ byteAt U.e i = byteAt T.e i := fun i hi => by
    obtain ⟨x, hx⟩ : ∃ x, T.e[i]? = some x := ⟨_, List.getElem?_eq_getElem hi⟩
    rw [goneAt_at (k1 i x hx), goneAt_at hx, byteAt_at (k1 i x hx), byteAt_at hx]
    split
    · exact ⟨(more_same x _ _ _).2.2, (more_same x _ _ _).2.1⟩
    · exact ⟨rfl, rfl⟩
  have hin : ∀ i ∈ (X ++ [a]) ++ Y, i < T.e.length := fun i hi => order_lt h.good.down (by rw [hP]; exact hi)
  have sX : shown U.e (X ++ [a]) = (textE T.e).take n := (shown_same fun i hi => hold i (hin i (List.mem_append_left _ hi))).trans hX
  have sY : shown U.e Y = (textE T.e).drop n := (shown_same fun i hi => hold i (hin i (List.mem_append_right _ hi))).trans hY
  have sR : shown U.e (List.range' T.e.length s0.length) = s0 := run_shown (id := id0) fun j hj => by obtain ⟨y, h⟩ := n1 j hj; exact ⟨y, h.1, h.2.1, h.2.2.1, h.2.2.2.1⟩
  have hid1 : id1 ∉ (L ++ [(id0, runOps at_ left s0)]).map (·.1) := by rw [← T1.ads]; exact j1
  rw [addT, if_pos w1]
  show textE (addN id1 _ U.e _) = _ ∨ textE (addN id1 _ U.e _) = _
  have hUl := atE_lt hA1
  rcases hcase with ⟨hl, rfl, hr⟩ | ⟨hl, hzl, Y', rfl⟩
  · right
    have hlt : nameLt ⟨false, id1, 1⟩ ⟨false, id0, 1⟩ = true := by
      rcases hc h0 with ⟨_, h⟩ | ⟨h, _⟩
      · exact h
      · rw [hl] at h; cases h
    subst hl
    have hzr : (z.more T.e false ⟨false, id0, 1⟩).right = [T.e.length] := by
      show kid T.e _ z.right = _
      rw [hr]; rfl
    have hkid : kid U.e ⟨false, id1, 1⟩ (z.more T.e false ⟨false, id0, 1⟩).right = U.e.length :: (z.more T.e false ⟨false, id0, 1⟩).right := by
      rw [hzr, kid, putN, hnm0, if_pos hlt]
    rw [run_text T1.good T1.built hid1 j2 hA1 hown j4 (P := X ++ [A]) (Q := List.range' T.e.length s0.length ++ Y) (by rw [o1]; simp) (fun b => ?_), sX, shown_app, sR, sY]
    · simp
    · rw [orderE, grow_right T1.good.down hUl hzA hkid 0 T1.good.pos, flat_after (X := X) (Y := List.range' T.e.length s0.length ++ Y) (by show orderE U.e = _; rw [o1]; simp) T1.good.nodup]; simp
  · left
    have hlt : nameLt ⟨false, id0, 1⟩ ⟨false, id1, 1⟩ = true := by
      rcases hc h0 with ⟨h, _⟩ | ⟨_, h⟩
      · rw [hl] at h; cases h
      · exact h
    subst hl
    have hzr : (z.more T.e true ⟨false, id0, 1⟩).left = [T.e.length] := by
      show kid T.e _ z.left = _
      rw [hzl]; rfl
    have hkid : kid U.e ⟨false, id1, 1⟩ (z.more T.e true ⟨false, id0, 1⟩).left = (z.more T.e true ⟨false, id0, 1⟩).left ++ [U.e.length] := by
      rw [hzr, kid, putN, hnm0, if_neg (by rw [nlt_asymm hlt]; decide)]; rfl
    rw [run_text T1.good T1.built hid1 j2 hA1 hown j4 (P := X ++ [a] ++ List.range' T.e.length s0.length) (Q := A :: Y') (by rw [o1]) (fun b => ?_), shown_app, sX, sR, sY]
    rw [orderE, grow_left T1.good.down hUl hzA hkid 0 T1.good.pos, flat_ahead (X := X ++ [a] ++ List.range' T.e.length s0.length) (Y := Y') (by show orderE U.e = _; rw [o1]) T1.good.nodup]
theorem insN_run {at_ : RefD} {left : Bool} {s : List UInt8} : insN (runOps at_ left s) = s.length := by
  rw [insN, List.countP_eq_length.2, run_length]
  intro x hx
  obtain ⟨i, hi⟩ := List.mem_iff_getElem?.1 hx
  obtain ⟨b, _, rfl⟩ := run_inv hi
  split <;> rfl
/-- Two runs at one gap stand there one behind the other, whichever came first. -/
theorem apart_text {L : Coms} {T : Tr} (h : TreeOk L T) {n : Nat} (hn : n ≤ (seenE T.e).length) {s0 s1 : List UInt8} {id0 id1 : Dig} (hne : id0 ≠ id1)
    (w0 : wrongC T id0 (runOps (gapE T.e n).1 (gapE T.e n).2.1 s0) = 0) (w1 : wrongC (addT T id0 (runOps (gapE T.e n).1 (gapE T.e n).2.1 s0)) id1 (runOps (gapE T.e n).1 (gapE T.e n).2.1 s1) = 0) :
    (textE (addT (addT T id0 (runOps (gapE T.e n).1 (gapE T.e n).2.1 s0)) id1 (runOps (gapE T.e n).1 (gapE T.e n).2.1 s1)).e = (textE T.e).take n ++ s0 ++ s1 ++ (textE T.e).drop n ∨
    textE (addT (addT T id0 (runOps (gapE T.e n).1 (gapE T.e n).2.1 s0)) id1 (runOps (gapE T.e n).1 (gapE T.e n).2.1 s1)).e = (textE T.e).take n ++ s1 ++ s0 ++ (textE T.e).drop n) ∧
    textE (addT (addT T id1 (runOps (gapE T.e n).1 (gapE T.e n).2.1 s1)) id0 (runOps (gapE T.e n).1 (gapE T.e n).2.1 s0)).e = textE (addT (addT T id0 (runOps (gapE T.e n).1 (gapE T.e n).2.1 s0)) id1 (runOps (gapE T.e n).1 (gapE T.e n).2.1 s1)).e := by
  have hg : gapE T.e n = ((gapAt T.e (gapI T.e n)).1, (gapAt T.e (gapI T.e n)).2, true) := by rw [gapE, if_neg (by omega)]
  obtain ⟨X, Y, ho, ha, _, _⟩ := gap_split h hn
  obtain ⟨A, z, hA, hz, hzn, hown, hpos, _⟩ := gap_first h ho ha
  have hA' : atE T.e (gapE T.e n).1 = some A := by rw [hg]; exact hA
  have hpos' : (gapE T.e n).2.1 = true → 0 < A := by rw [hg]; exact hpos
  obtain ⟨i1, i2, i3, i4⟩ := wrongC_zero w0
  obtain ⟨j1, j2, j3, j4⟩ := wrongC_zero w1
  have T1 := h.add w0
  have l1 := T1.length
  have l0 := h.length
  rw [List.map_append, List.sum_append, List.map_cons, List.map_nil, List.sum_cons, List.sum_nil, insN_run] at l1
  rw [insN_run] at i3 j3
  have had : (addT T id0 (runOps (gapE T.e n).1 (gapE T.e n).2.1 s0)).ad = T.ad ++ [id0] := by rw [addT, if_pos w0]
  rw [had] at j1
  have v1 : wrongC T id1 (runOps (gapE T.e n).1 (gapE T.e n).2.1 s1) = 0 := by
    rw [wrongC, if_neg (fun hh => j1 (by simp [hh])), if_neg (by rw [insN_run]; omega)]
    exact run_right h.good hA' hpos'
  have U1 := h.add v1
  have m1 := U1.length
  rw [List.map_append, List.sum_append, List.map_cons, List.map_nil, List.sum_cons, List.sum_nil, insN_run] at m1
  obtain ⟨B, hB, hBp⟩ := h.keepAt U1 (fun c hc => by simp [hc]) hA'
  have hud : (addT T id1 (runOps (gapE T.e n).1 (gapE T.e n).2.1 s1)).ad = T.ad ++ [id1] := by rw [addT, if_pos v1]
  have v0 : wrongC (addT T id1 (runOps (gapE T.e n).1 (gapE T.e n).2.1 s1)) id0 (runOps (gapE T.e n).1 (gapE T.e n).2.1 s0) = 0 := by
    rw [wrongC, if_neg (by rw [hud]; simp [i1, hne]), if_neg (by rw [insN_run]; omega)]
    exact run_right U1.good hB fun hh => hBp (hpos' hh)
  have T2 := T1.add w1
  have U2 := U1.add v0
  have hsame := (same_shown U2 T2 fun c => by simp only [List.mem_append, List.mem_cons, List.not_mem_nil, or_false]; constructor <;> (rintro ((h | h) | h) <;> simp [h])).2.1
  refine ⟨?_, hsame⟩
  have hnn : nameLt ⟨false, id0, 1⟩ ⟨false, id1, 1⟩ = true ∨ nameLt ⟨false, id1, 1⟩ ⟨false, id0, 1⟩ = true := by
    cases h1 : nameLt ⟨false, id0, 1⟩ ⟨false, id1, 1⟩ with
    | true => exact .inl rfl
    | false =>
      cases h2 : nameLt ⟨false, id1, 1⟩ ⟨false, id0, 1⟩ with
      | true => exact .inr rfl
      | false => have := nlt_tri (a := ⟨false, id0, 1⟩) (b := ⟨false, id1, 1⟩) rfl h1 h2; injection this with _ hh; exact absurd hh hne
  have hside : (gapE T.e n).2.1 = false ∨ (gapE T.e n).2.1 = true := by cases (gapE T.e n).2.1 <;> simp
  have fwd := two_text h hn w0 w1
  have bwd := two_text h hn v1 v0
  rcases hnn with hlt | hlt <;> rcases hside with hsd | hsd
  · rw [← hsame]; exact (bwd fun _ => .inl ⟨hsd, hlt⟩).symm
  · exact fwd fun _ => .inr ⟨hsd, hlt⟩
  · exact fwd fun _ => .inl ⟨hsd, hlt⟩
  · rw [← hsame]; exact (bwd fun _ => .inr ⟨hsd, hlt⟩).symm
/-! ## A deletion -/
theorem gone_seen {e : List El} {a : Nat} : seenE (goneE e a) = (seenE e).filter fun i => decide (i ≠ a) := by
  rw [seenE, orderE, gone_walk, seenE, List.filter_filter]
  refine List.filter_congr fun i _ => ?_
  rw [goneAt, goneAt, gone_at]
  cases hx : e[i]? with
  | none => simp
  | some x =>
    simp only [Option.map_some, Option.getD_some]
    by_cases h : i = a
    · subst h; simp
    · rw [if_neg h]; simp [h]
theorem gone_byte {e : List El} {a i : Nat} : byteAt (goneE e a) i = byteAt e i := by
  rw [byteAt, byteAt, gone_at]
  cases e[i]? with
  | none => rfl
  | some x => simp only [Option.map_some]; split <;> rfl
theorem filter_ne_at {l : List Nat} (hn : l.Nodup) : ∀ {n a : Nat}, l[n]? = some a → l.filter (fun i => decide (i ≠ a)) = l.take n ++ l.drop (n + 1) := by
  induction l with
  | nil => intro n a h; simp at h
  | cons x r ih =>
    intro n a h
    have hn' := List.nodup_cons.1 hn
    cases n with
    | zero =>
      simp at h; subst h
      rw [List.filter_cons, if_neg (by simp)]
      simp only [List.take_zero, List.nil_append, List.drop_succ_cons, List.drop_zero]
      exact List.filter_eq_self.2 fun y hy => by simp; rintro rfl; exact hn'.1 hy
    | succ n =>
      have h' : r[n]? = some a := by simpa using h
      have hxa : x ≠ a := fun e => hn'.1 (by rw [e]; exact List.mem_of_getElem? h')
      rw [List.filter_cons, if_pos (by simpa using hxa), ih hn'.2 h']; rfl
def delOps (r : RefD) : List OpD := [⟨2, false, r, 0⟩]
theorem delete_tree {L : Coms} {T : Tr} (h : TreeOk L T) {i : Nat} (hi : i < T.e.length) {id : Dig} (hw : wrongC T id (delOps (nm T.e i)) = 0) : (addT T id (delOps (nm T.e i))).e = goneE T.e i := by
  obtain ⟨x, hx⟩ : ∃ x, T.e[i]? = some x := ⟨_, List.getElem?_eq_getElem hi⟩
  rw [addT, if_pos hw]
  show stepE id T.e 0 ⟨2, false, nm T.e i, 0⟩ = _
  refine step_del ?_ rfl
  have ho := h.good.ownF hx
  rw [nm_at hx]
  simp only [res, ho]
  exact h.good.find hx
theorem delete_text {L : Coms} {T : Tr} (h : TreeOk L T) {n i : Nat} (hi : (seenE T.e)[n]? = some i) {id : Dig} (hw : wrongC T id (delOps (nm T.e i)) = 0) :
    textE (addT T id (delOps (nm T.e i))).e = (textE T.e).take n ++ (textE T.e).drop (n + 1) ∧ placeE (addT T id (delOps (nm T.e i))).e (nm T.e i) = none ∧ hasE (addT T id (delOps (nm T.e i))).e (nm T.e i) = true ∧
    ∀ id', seenE (addT (addT T id (delOps (nm T.e i))) id' (delOps (nm T.e i))).e = seenE (addT T id (delOps (nm T.e i))).e ∧ textE (addT (addT T id (delOps (nm T.e i))) id' (delOps (nm T.e i))).e = textE (addT T id (delOps (nm T.e i))).e := by
  have hm := List.mem_of_getElem? hi
  have hil := seen_lt h.good.down hm
  have he := delete_tree h hil hw
  have h1 := h.add hw
  have hb : byteAt (goneE T.e i) = byteAt T.e := funext fun j => gone_byte
  refine ⟨?_, ?_, ?_, fun id' => ?_⟩
  · rw [he, textE, hb, gone_seen, filter_ne_at h.good.seen_nodup hi, textE, List.map_append, List.map_take, List.map_drop]
  · rw [he, placeE, List.findIdx?_eq_none_iff]
    intro j hj
    rw [gone_seen, List.mem_filter] at hj
    have hjl := seen_lt h.good.down hj.1
    obtain ⟨x, hx⟩ : ∃ x, T.e[i]? = some x := ⟨_, List.getElem?_eq_getElem hil⟩
    obtain ⟨y, hy⟩ : ∃ y, T.e[j]? = some y := ⟨_, List.getElem?_eq_getElem hjl⟩
    have hji : j ≠ i := by simpa using hj.2
    rw [gone_nm]
    refine decide_eq_false fun hn => hji ?_
    rw [nm_at hx, nm_at hy] at hn
    exact h.good.inj hy hx hn
  · obtain ⟨x, hx⟩ : ∃ x, T.e[i]? = some x := ⟨_, List.getElem?_eq_getElem hil⟩
    obtain ⟨A, hA, hp⟩ := h.keepAt h1 (fun c hc => by simp [hc]) (h.good.find hx)
    rw [← nm_at hx] at hA
    rw [hasE, hA]
    exact decide_eq_true (hp (h.good.seen_pos hm))
  · by_cases hw' : wrongC (addT T id (delOps (nm T.e i))) id' (delOps (nm T.e i)) = 0
    · have hnm : nm T.e i = nm (addT T id (delOps (nm T.e i))).e i := by rw [he, gone_nm]
      have hw2 := hw'
      rw [hnm] at hw2
      have h2 := delete_tree h1 (i := i) (by rw [he, gone_length]; exact hil) (id := id') (by rw [← hnm]; exact hw')
      rw [← hnm] at h2
      rw [h2, he]
      have hs : seenE (goneE (goneE T.e i) i) = seenE (goneE T.e i) := by
        rw [gone_seen (e := goneE T.e i), gone_seen, List.filter_filter]
        exact List.filter_congr fun j _ => by simp
      exact ⟨hs, by rw [textE, hs, textE]; exact List.map_congr_left fun j _ => gone_byte⟩
    · have : addT (addT T id (delOps (nm T.e i))) id' (delOps (nm T.e i)) = addT T id (delOps (nm T.e i)) := by rw [addT, if_neg hw']
      rw [this]; exact ⟨rfl, rfl⟩
/-! ## What stays -/
theorem addN_old {id : Dig} {ops : List OpD} {e : List El} : ∀ {k : Nat} {i : Nat} {x : El}, e[i]? = some x → ∃ y, (addN id ops e k)[i]? = some y ∧ y.name = x.name ∧ y.byte = x.byte ∧ (x.gone = true → y.gone = true)
  | 0, i, x, hx => ⟨x, hx, rfl, rfl, fun h => h⟩
  | k + 1, i, x, hx => by
    obtain ⟨y, hy, h1, h2, h3⟩ := addN_old (id := id) (ops := ops) (k := k) hx
    rw [addN]
    cases ho : ops[k]? with
    | none => exact ⟨y, hy, h1, h2, h3⟩
    | some o =>
      simp only
      unfold stepE
      cases ha : atE (addN id ops e k) (res id o.at_) with
      | none => exact ⟨y, hy, h1, h2, h3⟩
      | some a =>
        simp only
        split
        · refine ⟨if i = a then { y with gone := true } else y, by rw [gone_at, hy]; rfl, ?_⟩
          split
          · exact ⟨h1, h2, fun _ => rfl⟩
          · exact ⟨h1, h2, h3⟩
        · refine ⟨_, grow_old hy, ?_⟩
          split
          · have := more_same y (addN id ops e k) o.left ⟨false, id, (k : Int) + 1⟩
            exact ⟨this.1.trans h1, this.2.1.trans h2, fun h => this.2.2.trans (h3 h)⟩
          · exact ⟨h1, h2, h3⟩
theorem addN_order {id : Dig} {ops : List OpD} {e : List El} {L : Coms} (g : Good e) (hb : Built L e) (hid : id ∉ L.map (·.1)) (hl : ops.length ≤ 2000) (hw : wrongN e ops ops.length = 0) : ∀ k, k ≤ ops.length → (orderE (addN id ops e k)).filter (fun i => decide (i < e.length)) = orderE e
  | 0, _ => List.filter_eq_self.2 fun i hi => decide_eq_true (order_lt g.down hi)
  | k + 1, hk => by
    have ih := addN_order g hb hid hl hw k (by omega)
    obtain ⟨g', hb', hn'⟩ := add_upto g hb hid hl hw k (by omega)
    obtain ⟨x, hx⟩ : ∃ x, ops[k]? = some x := ⟨_, List.getElem?_eq_getElem (by omega)⟩
    obtain ⟨a, ha⟩ := old_name hb hb' hx (wrongN_get hw hx)
    have R := right_op hx (wrongAt_zero (wrongN_get hw hx)).1
    rw [addN_at hx]
    rcases R.kind with ⟨hk1, _⟩ | ⟨hk2, _⟩
    · rw [step_ins ha hk1]
      have := grow_filter (left := x.left) (r := ⟨false, id, (k : Int) + 1⟩) (b := x.byte) g'.down (atE_lt ha) 0 g'.pos
      rw [← ih, orderE, orderE, ← this, List.filter_filter]
      refine List.filter_congr fun i _ => ?_
      by_cases h : i < e.length
      · simp [h]; omega
      · simp [h]
    · rw [step_del ha hk2, orderE, gone_walk]; exact ih
/-- Where a name stands among those shown. -/
structure Keep (T T' : Tr) (id : Dig) (ops : List OpD) : Prop where
  /-- What stays seen keeps its order. -/
  order : (seenE T.e).Pairwise fun i j => i ∈ seenE T'.e → j ∈ seenE T'.e → (seenE T'.e).idxOf i < (seenE T'.e).idxOf j
  old : ∀ i, i < T.e.length → nm T'.e i = nm T.e i
  gone : ∀ i ∈ seenE T.e, i ∈ seenE T'.e ↔ ¬ ∃ x ∈ ops, x.kind = 2 ∧ x.at_ = nm T.e i
  new : ∀ i ∈ seenE T'.e, i ∈ seenE T.e ∨ (nm T'.e i).c = id
theorem keeps {L : Coms} {T : Tr} (h : TreeOk L T) {id : Dig} {ops : List OpD} (hw : wrongC T id ops = 0) : Keep T (addT T id ops) id ops := by
  obtain ⟨i1, i2, i3, i4⟩ := wrongC_zero hw
  have hid : id ∉ L.map (·.1) := by rw [← h.ads]; exact i1
  have h' := h.add hw
  have he : (addT T id ops).e = addN id ops T.e ops.length := by rw [addT, if_pos hw]
  have hord := addN_order h.good h.built hid i2 i4 ops.length (Nat.le_refl _)
  rw [← he] at hord
  have hold : ∀ (i : Nat) (x : El), T.e[i]? = some x → ∃ y : El, (addT T id ops).e[i]? = some y ∧ y.name = x.name ∧ y.byte = x.byte ∧ (x.gone = true → y.gone = true) := fun i x hx => by rw [he]; exact addN_old hx
  generalize addT T id ops = T' at *
  have hnm : ∀ i, i < T.e.length → nm T'.e i = nm T.e i := fun i hi => by
    obtain ⟨x, hx⟩ : ∃ x, T.e[i]? = some x := ⟨_, List.getElem?_eq_getElem hi⟩
    obtain ⟨y, hy, hn, _⟩ := hold i x hx
    rw [nm_at hx, nm_at hy, hn]
  have hsub : (seenE T'.e).filter (fun i => decide (i < T.e.length)) = (seenE T.e).filter fun i => !goneAt T'.e i := by
    rw [seenE, seenE, ← hord, List.filter_filter, List.filter_filter, List.filter_filter]
    refine List.filter_congr fun i _ => ?_
    by_cases hi : i < T.e.length
    · obtain ⟨x, hx⟩ : ∃ x, T.e[i]? = some x := ⟨_, List.getElem?_eq_getElem hi⟩
      obtain ⟨y, hy, _, _, hg⟩ := hold i x hx
      rw [goneAt_at hx, goneAt_at hy]
      cases hxg : x.gone
      · simp [hi]
      · simp [hg hxg]
    · simp [hi]
  refine ⟨?_, hnm, fun i hi => ?_, fun i hi => ?_⟩
  · have hp : (seenE T'.e).Pairwise fun i j => (seenE T'.e).idxOf i < (seenE T'.e).idxOf j := by
      rw [List.pairwise_iff_getElem]
      intro p q hp hq hpq
      rw [h'.good.seen_nodup.idxOf_getElem p hp, h'.good.seen_nodup.idxOf_getElem q hq]; exact hpq
    have hp2 := List.Pairwise.sublist (List.filter_sublist (p := fun i => decide (i < T.e.length))) hp
    rw [hsub, List.pairwise_filter] at hp2
    exact hp2.imp fun {i j} hh hi hj => hh (by rw [seen_gone hi]; rfl) (by rw [seen_gone hj]; rfl)
  · have hil := seen_lt h.good.down hi
    obtain ⟨x, hx⟩ : ∃ x, T.e[i]? = some x := ⟨_, List.getElem?_eq_getElem hil⟩
    obtain ⟨y, hy, hyn, _, _⟩ := hold i x hx
    have hxg : x.gone = false := by have := seen_gone hi; rwa [goneAt_at hx] at this
    have hxz : x.name ≠ RefD.zero := fun hz => by have := h.good.seen_pos hi; have := (h.good.zero hx).1 hz; omega
    have hxd : ¬ DelOf L x.name := fun hd => by have := (h.built.gone x (List.mem_of_getElem? hx)).2 (.inr hd); rw [hxg] at this; cases this
    rw [h'.good.seen_mem hy, nm_at hx, ← Bool.not_eq_true, h'.built.gone y (List.mem_of_getElem? hy), hyn]
    refine not_congr ⟨?_, ?_⟩
    · rintro (hz | ⟨id', ops', k, o, hm, ho, hk, hr⟩)
      · exact absurd hz hxz
      · rcases List.mem_append.1 hm with hm | hm
        · exact absurd ⟨id', ops', k, o, hm, ho, hk, hr⟩ hxd
        · simp at hm
          obtain ⟨rfl, rfl⟩ := hm
          refine ⟨o, List.mem_of_getElem? ho, hk, ?_⟩
          by_cases hown : o.at_.own = true
          · exfalso
            rw [res, if_pos hown] at hr
            rcases (h.built.names x.name).1 ⟨x, List.mem_of_getElem? hx, rfl⟩ with hz | ⟨b, p, s, id2, ops2, k2, o2, hm2, _, _, hr2, _⟩
            · exact hxz hz
            · rw [hr] at hr2
              injection hr2 with _ hh _
              exact hid (by rw [hh]; exact List.mem_map_of_mem hm2)
          · rw [res, if_neg hown] at hr; exact hr.symm
    · rintro ⟨o, ho, hk, hr⟩
      obtain ⟨k, ho⟩ := List.mem_iff_getElem?.1 ho
      refine .inr ⟨id, ops, k, o, by simp, ho, hk, ?_⟩
      rw [res, hr, if_neg (by rw [h.good.ownF hx]; decide)]
  · by_cases hil : i < T.e.length
    · left
      obtain ⟨x, hx⟩ : ∃ x, T.e[i]? = some x := ⟨_, List.getElem?_eq_getElem hil⟩
      obtain ⟨y, hy, _, _, hg⟩ := hold i x hx
      rw [h.good.seen_mem hx]
      have := seen_gone hi
      rw [goneAt_at hy] at this
      cases hxg : x.gone
      · rfl
      · rw [hg hxg] at this; cases this
    · right
      have hil' := seen_lt h'.good.down hi
      obtain ⟨y, hy⟩ : ∃ y, T'.e[i]? = some y := ⟨_, List.getElem?_eq_getElem hil'⟩
      rw [nm_at hy]
      have hp := h.good.pos
      rcases (h'.built.names y.name).1 ⟨y, List.mem_of_getElem? hy, rfl⟩ with hz | ⟨b, p, s, id', ops', k, o, hm, ho, hk, hr, hh⟩
      · have := (h'.good.zero hy).1 hz; omega
      · rcases List.mem_append.1 hm with hm | hm
        · exfalso
          obtain ⟨x, hx, hxn⟩ := (h.built.names y.name).2 (.inr ⟨b, p, s, id', ops', k, o, hm, ho, hk, hr, hh⟩)
          obtain ⟨j, hx⟩ := List.mem_iff_getElem?.1 hx
          obtain ⟨y', hy', hn', _⟩ := hold j x hx
          have := h'.good.inj hy' hy (hn'.trans hxn)
          have := (List.getElem?_eq_some_iff.1 hx).1
          omega
        · simp at hm
          rw [hr, hm.1]
end Go.Fu

/- What must come. Plain. -/
namespace Go.Fu
open Go.Fw Go.Pl
def D1 : Dig := ⟨1 :: List.replicate 31 0, rfl⟩
def aliveOps : List OpD := [⟨1, false, RefD.zero, 97⟩, ⟨1, false, ⟨true, Dig.zero, 1⟩, 98⟩]
theorem alive_e : wrongC Tr.new D1 aliveOps = 0 := by decide
theorem alive_t : textE (addT Tr.new D1 aliveOps).e = [97, 98] := by decide
theorem alive_g : gapE (addT Tr.new D1 aliveOps).e 1 = (⟨false, D1, 2⟩, true, true) := by decide
theorem alive_l : (addT Tr.new D1 aliveOps).e.countP (fun x => !x.gone) = 2 := by decide
/-- place: n among m + 1. -/
def placeI (n : Int) (m : Nat) : Int := (n.tmod (m + 1) + m + 1).tmod (m + 1)
theorem placeI_bound (n : Int) (m : Nat) : -((m : Int) + 1) < n.tmod (m + 1) ∧ n.tmod (m + 1) < (m : Int) + 1 := ⟨Int.lt_tmod_of_pos n (by omega), Int.tmod_lt_of_pos n (by omega)⟩
theorem placeI_le (n : Int) (m : Nat) : ∃ k : Nat, k ≤ m ∧ placeI n m = k := by
  have h1 := placeI_bound n m
  have h2 : 0 ≤ placeI n m := Int.tmod_nonneg _ (by omega)
  have h3 : placeI n m < (m : Int) + 1 := Int.tmod_lt_of_pos _ (by omega)
  exact ⟨(placeI n m).toNat, by omega, by omega⟩
end Go.Fu
