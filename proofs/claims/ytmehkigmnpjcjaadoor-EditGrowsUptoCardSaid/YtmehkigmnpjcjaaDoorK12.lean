/- Parts of a proof: what its last text leans on. No condition. -/
import Derived.Test.YtmehkigmnpjcjaaDoorK04
set_option linter.unusedSimpArgs false
set_option linter.unusedVariables false
/- Fugue's trees as Lean's data: elements, the walk, what is added, what a tree shows. No condition; no program. -/
namespace Go.Fu
open Go.Fw Go.Pl
theorem bq_trans : ∀ {a b c : List UInt8}, Op.bytesLess a b = true → Op.bytesLess b c = true → Op.bytesLess a c = true
 | _, [], _, h, _ => by simp [Op.bytesLess] at h
 | _, _ :: _, [], _, h => by simp [Op.bytesLess] at h
 | [], _ :: _, _ :: _, _, _ => by simp [Op.bytesLess]
 | a :: x, b :: y, c :: z, h, k => by
  simp only [Op.bytesLess, Bool.or_eq_true, decide_eq_true_eq, Bool.and_eq_true, beq_iff_eq] at h k ⊢
  rcases h with h | ⟨rfl, h⟩
  ·
   rcases k with k | ⟨rfl, k⟩
   ·
    exact .inl (UInt8.lt_trans h k)
   ·
    exact .inl h
  ·
   rcases k with k | ⟨rfl, k⟩
   ·
    exact .inl k
   ·
    exact .inr ⟨rfl, bq_trans h k⟩
theorem bq_tri : ∀ {a b : List UInt8}, a.length = b.length → Op.bytesLess a b = false → Op.bytesLess b a = false → a = b
 | [], [], _, _, _ => rfl
 | [], _ :: _, h, _, _ => by simp at h
 | _ :: _, [], h, _, _ => by simp at h
 | a :: x, b :: y, hl, h, k => by
  simp only [Op.bytesLess, Bool.or_eq_false_iff, decide_eq_false_iff_not, Bool.and_eq_false_imp, beq_iff_eq] at h k
  have e : a = b := UInt8.toNat_inj.1 (by
   have h1 : ¬ a.toNat < b.toNat := fun x => h.1 (UInt8.lt_iff_toNat_lt.2 x)
   have h2 : ¬ b.toNat < a.toNat := fun x => k.1 (UInt8.lt_iff_toNat_lt.2 x)
   omega)
  subst e
  rw [bq_tri (by simpa using hl) (h.2 rfl) (k.2 rfl)]
theorem lq_trans {a b c : Dig} (h : lessB a b = true) (k : lessB b c = true) : lessB a c = true := bq_trans h k
theorem lq_tri {a b : Dig} (h : lessB a b = false) (k : lessB b a = false) : a = b := Subtype.ext (bq_tri (by rw [a.2, b.2]) h k)
theorem lq_irrefl (a : Dig) : lessB a a = false := bytesLess_self _
structure El where
 name : RefD
 byte : UInt8
 gone : Bool
 left : List Nat
 right : List Nat
def El.root : El := ⟨RefD.zero, 0, true, [], []⟩
def walkF (e : List El) : Nat → Nat → List Nat
 | 0, _ => []
 | k + 1, i => match e[i]? with
  | none => []
  | some x => x.left.flatMap (walkF e k) ++ i :: x.right.flatMap (walkF e k)
def walkE (e : List El) (i : Nat) : List Nat := walkF e e.length i
abbrev orderE (e : List El) : List Nat := walkE e 0
def Down (e : List El) : Prop := ∀ i x, e[i]? = some x → ∀ c, c ∈ x.left ∨ c ∈ x.right → i < c ∧ c < e.length
section
variable {e e' : List El}
theorem flatMap_same {α β : Type} {l : List α} {f g : α → List β} (h : ∀ x ∈ l, f x = g x) : l.flatMap f = l.flatMap g := by
 induction l with
 | nil => rfl
 | cons a r ih => rw [List.flatMap_cons, List.flatMap_cons, h a (by simp), ih fun x hx => h x (by simp [hx])]
theorem walkF_stable (h : Down e) : ∀ {k k' i : Nat}, e.length ≤ k + i → e.length ≤ k' + i → walkF e k i = walkF e k' i
 | 0, 0, i, _, _ => rfl
 | 0, k' + 1, i, h1, _ => by
  have : e[i]? = none := List.getElem?_eq_none_iff.2 om_
  simp [walkF, this]
 | k + 1, 0, i, _, h2 => by
  have : e[i]? = none := List.getElem?_eq_none_iff.2 om_
  simp [walkF, this]
 | k + 1, k' + 1, i, h1, h2 => by
  rw [walkF, walkF]
  cases hx : e[i]? with
  | none => rfl
  | some x =>
   have hd := h i x hx
   simp only
   rw [flatMap_same (l := x.left) (g := walkF e k') fun c hc => walkF_stable h (by have := hd c (.inl hc); omega) (by have := hd c (.inl hc); omega),
    flatMap_same (l := x.right) (g := walkF e k') fun c hc => walkF_stable h (by have := hd c (.inr hc); omega) (by have := hd c (.inr hc); omega)]
theorem walkE_eq (h : Down e) {i : Nat} {x : El} (hx : e[i]? = some x) : walkE e i = x.left.flatMap (walkE e) ++ i :: x.right.flatMap (walkE e) := by
 have hi := (List.getElem?_eq_some_iff.1 hx).1
 have hd := h i x hx
 obtain ⟨k, hk⟩ : ∃ k, e.length = k + 1 := ⟨e.length - 1, by omega⟩
 rw [walkE, hk, walkF, hx]
 simp only
 rw [flatMap_same (l := x.left) (g := walkE e) fun c hc => walkF_stable h (by have := hd c (.inl hc); omega) om_,
  flatMap_same (l := x.right) (g := walkE e) fun c hc => walkF_stable h (by have := hd c (.inr hc); omega) om_]
theorem walkE_out {i : Nat} (hi : e.length ≤ i) : walkE e i = [] := by
 have : e[i]? = none := List.getElem?_eq_none_iff.2 hi
 unfold walkE
 cases e.length <;> simp [walkF, this]
theorem down_ind (h : Down e) {P : Nat → Prop} (step : ∀ i x, e[i]? = some x → (∀ c, c ∈ x.left ∨ c ∈ x.right → c < e.length → P c) → P i) : ∀ i, i < e.length → P i := by
 have key : ∀ m i, e.length - i = m → i < e.length → P i := by
  intro m
  induction m using Nat.strongRecOn with
  | _ m ih =>
   intro i hm hi
   obtain ⟨x, hx⟩ : ∃ x, e[i]? = some x := ⟨_, List.getElem?_eq_getElem hi⟩
   exact step i x hx fun c hc hl => by
    have := h i x hx c hc
    exact ih (e.length - c) om_ c rfl hl
 exact fun i hi => key _ i rfl hi
theorem walk_lt (h : Down e) : ∀ i, i < e.length → ∀ j ∈ walkE e i, j < e.length ∧ i ≤ j ∨ j < e.length := by
 refine down_ind h fun i x hx ih j hj => ?_
 have hd := h i x hx
 have hi := (List.getElem?_eq_some_iff.1 hx).1
 rw [walkE_eq h hx, List.mem_append, List.mem_cons, List.mem_flatMap, List.mem_flatMap] at hj
 rcases hj with ⟨c, hc, hj⟩ | rfl | ⟨c, hc, hj⟩
 ·
  have := ih c (.inl hc) (hd c (.inl hc)).2 j hj; omega
 ·
  exact .inr hi
 ·
  have := ih c (.inr hc) (hd c (.inr hc)).2 j hj; omega
theorem order_lt (h : Down e) {j : Nat} (hj : j ∈ orderE e) : j < e.length := by
 by_cases h0 : 0 < e.length
 ·
  have := walk_lt h 0 h0 j hj; omega
 ·
  rw [orderE, walkE_out om_] at hj; cases hj
def putN (f : Nat → Bool) (n : Nat) : List Nat → List Nat
 | [] => [n]
 | y :: r => if f y = true then n :: y :: r else y :: putN f n r
theorem putN_split (f : Nat → Bool) (n : Nat) : ∀ l : List Nat, ∃ a b, l = a ++ b ∧ putN f n l = a ++ n :: b ∧ (∀ y ∈ a, f y = false) ∧ (∀ y r, b = y :: r → f y = true)
 | [] => ⟨[], [], rfl, rfl, fun _ h => by simp at h, fun _ _ h => by simp at h⟩
 | y :: r => by
  rw [putN]
  by_cases h : f y = true
  ·
   rw [if_pos h]; exact ⟨[], y :: r, rfl, rfl, fun _ h => by simp at h, fun _ _ he => by cases he; exact h⟩
  ·
   rw [if_neg h]
   obtain ⟨a, b, h1, h2, h3, h4⟩ := putN_split f n r
   exact ⟨y :: a, b, by rw [h1]; rfl, by rw [h2]; rfl, fun z hz => by
    rcases List.mem_cons.1 hz with rfl | hz
    ·
     simpa using h
    ·
     exact h3 z hz, h4⟩
theorem putN_mem {f : Nat → Bool} {n c : Nat} {l : List Nat} : c ∈ putN f n l ↔ c = n ∨ c ∈ l := by
 obtain ⟨a, b, h1, h2, _⟩ := putN_split f n l
 rw [h2, h1]
 simp only [List.mem_append, List.mem_cons]
 constructor <;> (intro h; rcases h with h | h | h <;> simp [h])
noncomputable def nameLt (a b : RefD) : Bool := lessB a.c b.c || (decide (a.c = b.c) && decide (a.n < b.n))
def nm (e : List El) (i : Nat) : RefD := (e[i]?.map El.name).getD RefD.zero
theorem nm_at {i : Nat} {x : El} (h : e[i]? = some x) : nm e i = x.name := by rw [nm, h]; rfl
noncomputable def kid (e : List El) (r : RefD) (l : List Nat) : List Nat := putN (fun y => nameLt r (nm e y)) e.length l
noncomputable def El.more (x : El) (e : List El) (left : Bool) (r : RefD) : El := if left = true then { x with left := kid e r x.left } else { x with right := kid e r x.right }
noncomputable def growE (e : List El) (at_ : Nat) (left : Bool) (r : RefD) (b : UInt8) : List El := (e ++ [(⟨r, b, false, [], []⟩ : El)]).modify at_ fun x => x.more e left r
def goneE (e : List El) (at_ : Nat) : List El := e.modify at_ fun x => { x with gone := true }
theorem modify_other {l : List El} {i j : Nat} {f : El → El} (h : i ≠ j) : (l.modify i f)[j]? = l[j]? := by
 rw [List.getElem?_modify]; cases l[j]? <;> simp [h]
theorem modify_self {l : List El} {i : Nat} {f : El → El} {x : El} (h : l[i]? = some x) : (l.modify i f)[i]? = some (f x) := by
 rw [List.getElem?_modify, h]; simp
section grow
variable {at_ : Nat} {left : Bool} {r : RefD} {b : UInt8}
theorem grow_length : (growE e at_ left r b).length = e.length + 1 := by simp [growE]
theorem grow_new (ha : at_ < e.length) : (growE e at_ left r b)[e.length]? = some ⟨r, b, false, [], []⟩ := by
 rw [growE, modify_other om_]; simp
theorem grow_at (ha : at_ < e.length) {x : El} (hx : e[at_]? = some x) : (growE e at_ left r b)[at_]? = some (x.more e left r) := by
 rw [growE]; exact modify_self (by rw [List.getElem?_append_left ha, hx])
theorem grow_else {i : Nat} (hi : i < e.length) (hne : i ≠ at_) : (growE e at_ left r b)[i]? = e[i]? := by
 rw [growE, modify_other (fun h => hne h.symm), List.getElem?_append_left hi]
theorem grow_old {i : Nat} {x : El} (hx : e[i]? = some x) : (growE e at_ left r b)[i]? = some (if i = at_ then x.more e left r else x) := by
 have hi := (List.getElem?_eq_some_iff.1 hx).1
 by_cases h : i = at_
 ·
  subst h; rw [if_pos rfl]; exact grow_at hi hx
 ·
  rw [if_neg h, grow_else hi h, hx]
theorem grow_inv {i : Nat} {y : El} (ha : at_ < e.length) (h : (growE e at_ left r b)[i]? = some y) : (i = e.length ∧ y = ⟨r, b, false, [], []⟩) ∨ ∃ x, e[i]? = some x ∧ y = if i = at_ then x.more e left r else x := by
 have hi := (List.getElem?_eq_some_iff.1 h).1
 rw [grow_length] at hi
 by_cases hn : i = e.length
 ·
  subst hn; rw [grow_new ha] at h; exact .inl ⟨rfl, (Option.some.inj h).symm⟩
 ·
  obtain ⟨x, hx⟩ : ∃ x, e[i]? = some x := ⟨_, List.getElem?_eq_getElem om_⟩
  rw [grow_old hx] at h
  exact .inr ⟨x, hx, (Option.some.inj h).symm⟩
theorem more_kids {x : El} {c : Nat} (h : c ∈ (x.more e left r).left ∨ c ∈ (x.more e left r).right) : c = e.length ∨ c ∈ x.left ∨ c ∈ x.right := by
 unfold El.more at h
 split at h
 ·
  rcases h with h | h
  ·
   rcases putN_mem.1 h with h | h
   ·
    exact .inl h
   ·
    exact .inr (.inl h)
  ·
   exact .inr (.inr h)
 ·
  rcases h with h | h
  ·
   exact .inr (.inl h)
  ·
   rcases putN_mem.1 h with h | h
   ·
    exact .inl h
   ·
    exact .inr (.inr h)
theorem grow_down (h : Down e) (ha : at_ < e.length) : Down (growE e at_ left r b) := by
 intro i y hy c hc
 rw [grow_length]
 rcases grow_inv ha hy with ⟨_, rfl⟩ | ⟨x, hx, rfl⟩
 ·
  simp at hc
 ·
  have hi := (List.getElem?_eq_some_iff.1 hx).1
  have hd := h i x hx
  split at hc
  ·
   rcases more_kids hc with rfl | hc
   ·
    omega
   ·
    have := hd c hc; omega
  ·
   have := hd c hc; omega
theorem grow_walk_new (h : Down e) (ha : at_ < e.length) : walkE (growE e at_ left r b) e.length = [e.length] := by
 rw [walkE_eq (grow_down h ha) (grow_new ha)]; rfl
theorem flatMap_putN {f : Nat → Bool} {n : Nat} {l : List Nat} {g : Nat → List Nat} (hg : g n = []) : (putN f n l).flatMap g = l.flatMap g := by
 obtain ⟨a, b, h1, h2, _⟩ := putN_split f n l
 rw [h2, h1]; simp [hg]
theorem grow_filter (h : Down e) (ha : at_ < e.length) : ∀ i, i < e.length → (walkE (growE e at_ left r b) i).filter (fun j => decide (j ≠ e.length)) = walkE e i := by
 refine down_ind h fun i x hx ih => ?_
 have hi := (List.getElem?_eq_some_iff.1 hx).1
 have hd := h i x hx
 have hn := grow_walk_new (left := left) (r := r) (b := b) h ha
 rw [walkE_eq (grow_down h ha) (grow_old hx), walkE_eq h hx, List.filter_append, List.filter_cons, if_pos (show decide (i ≠ e.length) = true from decide_eq_true om_), List.filter_flatMap, List.filter_flatMap]
 have hnew : (fun j => (walkE (growE e at_ left r b) j).filter (fun j => decide (j ≠ e.length))) e.length = [] := by simp [hn]
 have e1 : (if i = at_ then x.more e left r else x).left.flatMap (fun j => (walkE (growE e at_ left r b) j).filter (fun j => decide (j ≠ e.length))) = x.left.flatMap (walkE e) := by
  have : x.left.flatMap (fun j => (walkE (growE e at_ left r b) j).filter (fun j => decide (j ≠ e.length))) = x.left.flatMap (walkE e) := flatMap_same fun c hc => ih c (.inl hc) (hd c (.inl hc)).2
  split
  ·
   unfold El.more
   split
   ·
    show (kid e r x.left).flatMap _ = _
    rw [kid, flatMap_putN hnew, this]
   ·
    exact this
  ·
   exact this
 have e2 : (if i = at_ then x.more e left r else x).right.flatMap (fun j => (walkE (growE e at_ left r b) j).filter (fun j => decide (j ≠ e.length))) = x.right.flatMap (walkE e) := by
  have : x.right.flatMap (fun j => (walkE (growE e at_ left r b) j).filter (fun j => decide (j ≠ e.length))) = x.right.flatMap (walkE e) := flatMap_same fun c hc => ih c (.inr hc) (hd c (.inr hc)).2
  split
  ·
   unfold El.more
   split
   ·
    exact this
   ·
    show (kid e r x.right).flatMap _ = _
    rw [kid, flatMap_putN hnew, this]
  ·
   exact this
 rw [e1, e2]
theorem count_flatMap_same {l : List Nat} {f g : Nat → List Nat} {a b : Nat} (h : ∀ x ∈ l, (f x).count a = (g x).count b) : (l.flatMap f).count a = (l.flatMap g).count b := by
 induction l with
 | nil => rfl
 | cons x t ih => rw [List.flatMap_cons, List.flatMap_cons, List.count_append, List.count_append, h x (by simp), ih fun y hy => h y (by simp [hy])]
theorem count_flatMap_putN {f : Nat → Bool} {n a : Nat} {l : List Nat} {g : Nat → List Nat} : ((putN f n l).flatMap g).count a = (l.flatMap g).count a + (g n).count a := by
 obtain ⟨x, y, h1, h2, _⟩ := putN_split f n l
 rw [h2, h1]; simp [List.count_append]; omega
theorem grow_count (h : Down e) (ha : at_ < e.length) : ∀ i, i < e.length → (walkE (growE e at_ left r b) i).count e.length = (walkE e i).count at_ := by
 refine down_ind h fun i x hx ih => ?_
 have hi := (List.getElem?_eq_some_iff.1 hx).1
 have hd := h i x hx
 have hn := grow_walk_new (left := left) (r := r) (b := b) h ha
 rw [walkE_eq (grow_down h ha) (grow_old hx), walkE_eq h hx, List.count_append, List.count_append, List.count_cons, List.count_cons, if_neg (show ¬ (i == e.length) = true by rw [beq_iff_eq]; omega)]
 have e1 := count_flatMap_same (l := x.left) (f := walkE (growE e at_ left r b)) (g := walkE e) (a := e.length) (b := at_) fun c hc => ih c (.inl hc) (hd c (.inl hc)).2
 have e2 := count_flatMap_same (l := x.right) (f := walkE (growE e at_ left r b)) (g := walkE e) (a := e.length) (b := at_) fun c hc => ih c (.inr hc) (hd c (.inr hc)).2
 have h1 : List.count e.length (walkE (growE e at_ left r b) e.length) = 1 := by rw [hn]; simp
 by_cases hia : i = at_
 ·
  rw [if_pos (show (i == at_) = true by simp [hia])]
  simp only [if_pos hia]
  unfold El.more
  split
  ·
   show List.count _ ((kid e r x.left).flatMap _) + (List.count _ (x.right.flatMap _) + _) = _
   rw [kid, count_flatMap_putN, h1, e1, e2]; omega
  ·
   show List.count _ (x.left.flatMap _) + (List.count _ ((kid e r x.right).flatMap _) + _) = _
   rw [kid, count_flatMap_putN, h1, e1, e2]
 ·
  rw [if_neg (show ¬ (i == at_) = true by simpa using hia)]
  simp only [if_neg hia]
  rw [e1, e2]
theorem flatMap_flatMap_same {l : List Nat} {f g : Nat → List Nat} {p : Nat → List Nat} (h : ∀ x ∈ l, f x = (g x).flatMap p) : l.flatMap f = (l.flatMap g).flatMap p := by
 rw [List.flatMap_assoc]; exact flatMap_same h
theorem grow_right (h : Down e) (ha : at_ < e.length) {z : El} (hz : e[at_]? = some z) (hp : kid e r z.right = e.length :: z.right) : ∀ i, i < e.length → walkE (growE e at_ false r b) i = (walkE e i).flatMap fun j => if j = at_ then [at_, e.length] else [j] := by
 refine down_ind h fun i x hx ih => ?_
 have hi := (List.getElem?_eq_some_iff.1 hx).1
 have hd := h i x hx
 have hn := grow_walk_new (left := false) (r := r) (b := b) h ha
 rw [walkE_eq (grow_down h ha) (grow_old hx), walkE_eq h hx, List.flatMap_append, List.flatMap_cons]
 have e1 := flatMap_flatMap_same (l := x.left) (f := walkE (growE e at_ false r b)) (g := walkE e) (p := fun j => if j = at_ then [at_, e.length] else [j]) fun c hc => ih c (.inl hc) (hd c (.inl hc)).2
 have e2 := flatMap_flatMap_same (l := x.right) (f := walkE (growE e at_ false r b)) (g := walkE e) (p := fun j => if j = at_ then [at_, e.length] else [j]) fun c hc => ih c (.inr hc) (hd c (.inr hc)).2
 by_cases hia : i = at_
 ·
  subst hia
  obtain rfl : x = z := Option.some.inj (hx.symm.trans hz)
  rw [if_pos rfl, if_pos rfl]
  show x.left.flatMap _ ++ i :: (kid e r x.right).flatMap _ = _
  rw [hp, List.flatMap_cons, hn, e1, e2]; rfl
 ·
  rw [if_neg hia, if_neg hia, e1, e2]; rfl
theorem grow_left (h : Down e) (ha : at_ < e.length) {z : El} (hz : e[at_]? = some z) (hp : kid e r z.left = z.left ++ [e.length]) : ∀ i, i < e.length → walkE (growE e at_ true r b) i = (walkE e i).flatMap fun j => if j = at_ then [e.length, at_] else [j] := by
 refine down_ind h fun i x hx ih => ?_
 have hi := (List.getElem?_eq_some_iff.1 hx).1
 have hd := h i x hx
 have hn := grow_walk_new (left := true) (r := r) (b := b) h ha
 rw [walkE_eq (grow_down h ha) (grow_old hx), walkE_eq h hx, List.flatMap_append, List.flatMap_cons]
 have e1 := flatMap_flatMap_same (l := x.left) (f := walkE (growE e at_ true r b)) (g := walkE e) (p := fun j => if j = at_ then [e.length, at_] else [j]) fun c hc => ih c (.inl hc) (hd c (.inl hc)).2
 have e2 := flatMap_flatMap_same (l := x.right) (f := walkE (growE e at_ true r b)) (g := walkE e) (p := fun j => if j = at_ then [e.length, at_] else [j]) fun c hc => ih c (.inr hc) (hd c (.inr hc)).2
 by_cases hia : i = at_
 ·
  subst hia
  obtain rfl : x = z := Option.some.inj (hx.symm.trans hz)
  rw [if_pos rfl, if_pos rfl]
  show (kid e r x.left).flatMap _ ++ i :: x.right.flatMap _ = _
  rw [hp, List.flatMap_append, List.flatMap_cons, List.flatMap_nil, hn, e1, e2]; simp
 ·
  rw [if_neg hia, if_neg hia, e1, e2]; rfl
end grow
theorem gone_at {at_ i : Nat} : (goneE e at_)[i]? = (e[i]?).map fun x => if i = at_ then { x with gone := true } else x := by
 unfold goneE
 by_cases h : at_ = i
 ·
  subst h; cases hx : e[at_]? with
  | none => rw [List.getElem?_modify, hx]; rfl
  | some x => rw [modify_self hx]; simp
 ·
  rw [modify_other h]; cases e[i]? with
  | none => rfl
  | some x => simp only [Option.map_some]; rw [if_neg (fun h' => h h'.symm)]
theorem gone_length {at_ : Nat} : (goneE e at_).length = e.length := by simp [goneE]
theorem gone_walkF {at_ : Nat} : ∀ {k i : Nat}, walkF (goneE e at_) k i = walkF e k i
 | 0, _ => rfl
 | k + 1, i => by
  rw [walkF, walkF, gone_at]
  cases e[i]? with
  | none => rfl
  | some x =>
   simp only [Option.map_some]
   split <;> rw [flatMap_same (g := walkF e k) fun c _ => gone_walkF, flatMap_same (l := x.right) (g := walkF e k) fun c _ => gone_walkF]
theorem gone_walk {at_ i : Nat} : walkE (goneE e at_) i = walkE e i := by rw [walkE, walkE, gone_length, gone_walkF]
theorem gone_down {at_ : Nat} (h : Down e) : Down (goneE e at_) := by
 intro i y hy c hc
 rw [gone_at] at hy
 obtain ⟨x, hx, rfl⟩ := Option.map_eq_some_iff.1 hy
 rw [gone_length]
 refine h i x hx c ?_
 split at hc <;> exact hc
end
end Go.Fu
namespace Go.Fu
open Go.Fw Go.Pl
section
variable {a b c : RefD}
theorem nlt_irrefl : nameLt a a = false := by simp [nameLt, lq_irrefl]
theorem nlt_trans (h : nameLt a b = true) (k : nameLt b c = true) : nameLt a c = true := by
 simp only [nameLt, Bool.or_eq_true, Bool.and_eq_true, decide_eq_true_eq] at h k ⊢
 rcases h with h | ⟨h1, h2⟩ <;> rcases k with k | ⟨k1, k2⟩
 ·
  exact .inl (lq_trans h k)
 ·
  exact .inl (k1 ▸ h)
 ·
  exact .inl (h1 ▸ k)
 ·
  exact .inr ⟨h1.trans k1, by omega⟩
theorem nlt_asymm (h : nameLt a b = true) : nameLt b a = false := by
 cases hb : nameLt b a with
 | false => rfl
 | true => have := nlt_trans h hb; rw [nlt_irrefl] at this; cases this
theorem nlt_tri (ho : a.own = b.own) (h : nameLt a b = false) (k : nameLt b a = false) : a = b := by
 simp only [nameLt, Bool.or_eq_false_iff, Bool.and_eq_false_iff, decide_eq_false_iff_not] at h k
 have hc := lq_tri h.1 k.1
 obtain ⟨o, c, n⟩ := a
 obtain ⟨o', c', n'⟩ := b
 simp only at ho hc h k
 subst ho; subst hc
 have : n = n' := by rcases h.2 with h | h <;> rcases k.2 with k | k <;> first | exact absurd rfl h | exact absurd rfl k | omega
 rw [this]
end
abbrev nms (e : List El) (l : List Nat) : List RefD := l.map (nm e)
abbrev Srt (l : List RefD) : Prop := l.Pairwise fun x y => nameLt x y = true
theorem srt_eq : ∀ {a b : List RefD}, Srt a → Srt b → (∀ x, x ∈ a ↔ x ∈ b) → a = b
 | [], [], _, _, _ => rfl
 | [], y :: b, _, _, h => by have := (h y).2 (by simp); simp at this
 | x :: a, [], _, _, h => by have := (h x).1 (by simp); simp at this
 | x :: a, y :: b, ha, hb, h => by
  have ha' := List.pairwise_cons.1 ha
  have hb' := List.pairwise_cons.1 hb
  have hxy : x = y := by
   rcases List.mem_cons.1 ((h x).1 (by simp)) with e | hx
   ·
    exact e
   ·
    rcases List.mem_cons.1 ((h y).2 (by simp)) with e | hy
    ·
     exact e.symm
    ·
     have h1 := hb'.1 x hx
     have h2 := ha'.1 y hy
     rw [nlt_asymm h1] at h2; cases h2
  subst hxy
  rw [srt_eq ha'.2 hb'.2 fun z => ?_]
  constructor
  ·
   intro hz
   rcases List.mem_cons.1 ((h z).1 (by simp [hz])) with rfl | hz'
   ·
    have := ha'.1 z hz; rw [nlt_irrefl] at this; cases this
   ·
    exact hz'
  ·
   intro hz
   rcases List.mem_cons.1 ((h z).2 (by simp [hz])) with rfl | hz'
   ·
    have := hb'.1 z hz; rw [nlt_irrefl] at this; cases this
   ·
    exact hz'
def atE (e : List El) (r : RefD) : Option Nat := e.findIdx? fun x => decide (x.name = r)
section
variable {e : List El} {r : RefD} {i : Nat}
theorem atE_some : atE e r = some i ↔ ∃ x, e[i]? = some x ∧ x.name = r ∧ ∀ j y, j < i → e[j]? = some y → y.name ≠ r := by
 rw [atE, List.findIdx?_eq_some_iff_getElem]
 constructor
 ·
  rintro ⟨h, h1, h2⟩
  refine ⟨_, List.getElem?_eq_getElem h, of_decide_eq_true h1, fun j y hj hy hn => ?_⟩
  have := h2 j hj
  obtain ⟨hl, rfl⟩ := List.getElem?_eq_some_iff.1 hy
  simp [hn] at this
 ·
  rintro ⟨x, hx, hn, h⟩
  obtain ⟨hl, rfl⟩ := List.getElem?_eq_some_iff.1 hx
  refine ⟨hl, decide_eq_true hn, fun j hj => ?_⟩
  have := h j _ hj (List.getElem?_eq_getElem om_)
  simpa using this
theorem atE_none : atE e r = none ↔ ∀ x ∈ e, x.name ≠ r := by
 rw [atE, List.findIdx?_eq_none_iff]
 simp
theorem atE_lt (h : atE e r = some i) : i < e.length := by
 obtain ⟨x, hx, _⟩ := atE_some.1 h
 exact (List.getElem?_eq_some_iff.1 hx).1
theorem atE_is (h : ∃ x ∈ e, x.name = r) : ∃ i, atE e r = some i := by
 cases hi : atE e r with
 | some i => exact ⟨i, rfl⟩
 | none => obtain ⟨x, hx, hn⟩ := h; exact absurd hn (atE_none.1 hi x hx)
theorem atE_mem (h : atE e r = some i) : ∃ x ∈ e, x.name = r := by
 obtain ⟨x, hx, hn, _⟩ := atE_some.1 h
 exact ⟨x, List.mem_of_getElem? hx, hn⟩
end
structure Good (e : List El) : Prop where
 down : Down e
 root : ∃ x, e[0]? = some x ∧ x.name = RefD.zero ∧ x.gone = true
 own : ∀ (i : Nat) (x : El), 0 < i → e[i]? = some x → x.name.own = false ∧ 1 ≤ x.name.n ∧ x.name.n ≤ 2000
 uniq : (e.map El.name).Nodup
 perm : (orderE e).Perm (List.range e.length)
 sort : ∀ (i : Nat) (x : El), e[i]? = some x → Srt (nms e x.left) ∧ Srt (nms e x.right)
section
variable {e : List El}
theorem good_root : Good [El.root] where
 down := fun i x hx c hc => by
  cases i with
  | zero => simp at hx; subst hx; simp [El.root] at hc
  | succ i => simp at hx
 root := ⟨_, rfl, rfl, rfl⟩
 own := fun i x hi hx => by
  cases i with
  | zero => omega
  | succ i => simp at hx
 uniq := by simp
 perm := by
  have : orderE [El.root] = [0] := rfl
  rw [this]; exact List.Perm.refl _
 sort := fun i x hx => by
  cases i with
  | zero => simp at hx; subst hx; simp [El.root]
  | succ i => simp at hx
theorem Good.pos (h : Good e) : 0 < e.length := by obtain ⟨x, hx, _⟩ := h.root; exact (List.getElem?_eq_some_iff.1 hx).1
theorem Good.inj (h : Good e) {i j : Nat} {x y : El} (hx : e[i]? = some x) (hy : e[j]? = some y) (hn : x.name = y.name) : i = j := by
 have h1 : (e.map El.name)[i]? = some x.name := by simp [hx]
 have h2 : (e.map El.name)[j]? = some x.name := by simp [hy, hn]
 exact (List.getElem?_inj (by simpa using (List.getElem?_eq_some_iff.1 hx).1) h.uniq).1 (h1.trans h2.symm)
theorem Good.find (h : Good e) {i : Nat} {x : El} (hx : e[i]? = some x) : atE e x.name = some i := by
 refine atE_some.2 ⟨x, hx, rfl, fun j y hj hy hn => ?_⟩
 have := h.inj hy hx hn
 omega
theorem Good.at0 (h : Good e) : atE e RefD.zero = some 0 := by obtain ⟨x, hx, hn, _⟩ := h.root; rw [← hn]; exact h.find hx
theorem Good.zero (h : Good e) {i : Nat} {x : El} (hx : e[i]? = some x) : x.name = RefD.zero ↔ i = 0 := by
 obtain ⟨z, hz, hn, _⟩ := h.root
 constructor
 ·
  intro hh; exact h.inj hx hz (hh.trans hn.symm)
 ·
  rintro rfl; rw [hx] at hz; cases hz; exact hn
theorem Good.ownF (h : Good e) {i : Nat} {x : El} (hx : e[i]? = some x) : x.name.own = false := by
 by_cases hi : i = 0
 ·
  rw [(h.zero hx).2 hi]; rfl
 ·
  exact (h.own i x om_ hx).1
theorem Good.nodup (h : Good e) : (orderE e).Nodup := h.perm.nodup_iff.2 List.nodup_range
theorem Good.mem (h : Good e) {i : Nat} : i ∈ orderE e ↔ i < e.length := by rw [h.perm.mem_iff, List.mem_range]
theorem Good.once (h : Good e) {i : Nat} (hi : i < e.length) : (orderE e).count i = 1 := by
 have := List.nodup_iff_count.1 h.nodup i
 have h2 := List.count_pos_iff.2 (h.mem.2 hi)
 omega
theorem gone_nm {a i : Nat} : nm (goneE e a) i = nm e i := by
 rw [nm, nm, gone_at]
 cases e[i]? with
 | none => rfl
 | some x => simp only [Option.map_some]; split <;> rfl
theorem Good.gone (h : Good e) (a : Nat) : Good (goneE e a) where
 down := gone_down h.down
 root := by
  obtain ⟨x, hx, h1, h2⟩ := h.root
  refine ⟨if 0 = a then { x with gone := true } else x, by rw [gone_at, hx]; rfl, ?_, ?_⟩ <;> split <;> first | exact h1 | rfl | exact h2
 own := fun i y hi hy => by
  rw [gone_at] at hy
  obtain ⟨x, hx, rfl⟩ := Option.map_eq_some_iff.1 hy
  have := h.own i x hi hx
  split <;> exact this
 uniq := by
  have : (goneE e a).map El.name = e.map El.name := by
   refine List.ext_getElem? fun i => ?_
   rw [List.getElem?_map, List.getElem?_map, gone_at]
   cases e[i]? with
   | none => rfl
   | some x => simp only [Option.map_some]; split <;> rfl
  rw [this]; exact h.uniq
 perm := by rw [orderE, gone_walk, gone_length]; exact h.perm
 sort := fun i y hy => by
  rw [gone_at] at hy
  obtain ⟨x, hx, rfl⟩ := Option.map_eq_some_iff.1 hy
  have hf : (nm (goneE e a)) = nm e := funext fun i => gone_nm
  rw [nms, nms, hf]
  have := h.sort i x hx
  split <;> exact this
theorem grow_nm {a : Nat} {left : Bool} {r : RefD} {b : UInt8} (ha : a < e.length) {i : Nat} : nm (growE e a left r b) i = if i = e.length then r else nm e i := by
 by_cases hi : i = e.length
 ·
  subst hi; rw [if_pos rfl, nm_at (grow_new ha)]
 ·
  rw [if_neg hi]
  by_cases hl : i < e.length
  ·
   obtain ⟨x, hx⟩ : ∃ x, e[i]? = some x := ⟨_, List.getElem?_eq_getElem hl⟩
   rw [nm_at hx, nm_at (grow_old hx)]
   split
   ·
    unfold El.more; split <;> rfl
   ·
    rfl
  ·
   rw [nm, nm, List.getElem?_eq_none_iff.2 (by rw [grow_length]; omega), List.getElem?_eq_none_iff.2 om_]
theorem putN_srt {r : RefD} {l : List Nat} {n : Nat} {g g' : Nat → RefD} (hs : Srt (l.map g)) (hg : ∀ y ∈ l, g' y = g y) (hn : g' n = r) (hne : ∀ y ∈ l, g y ≠ r) (ho : ∀ y ∈ l, (g y).own = r.own) : Srt ((putN (fun y => nameLt r (g y)) n l).map g') := by
 obtain ⟨a, b, h1, h2, h3, h4⟩ := putN_split (fun y => nameLt r (g y)) n l
 have hmap : ∀ m : List Nat, (∀ y ∈ m, y ∈ l) → m.map g' = m.map g := fun m hm => List.map_congr_left fun y hy => hg y (hm y hy)
 have ha : ∀ y ∈ a, y ∈ l := fun y hy => by rw [h1]; simp [hy]
 have hb : ∀ y ∈ b, y ∈ l := fun y hy => by rw [h1]; simp [hy]
 rw [h2, List.map_append, List.map_cons, hn, hmap a ha, hmap b hb]
 rw [h1, List.map_append] at hs
 obtain ⟨s1, s2, s3⟩ := List.pairwise_append.1 hs
 have hb' : ∀ y ∈ b, nameLt r (g y) = true := by
  cases b with
  | nil => intro y hy; cases hy
  | cons z t =>
   have hz := h4 z t rfl
   intro y hy
   rcases List.mem_cons.1 hy with rfl | hy
   ·
    exact hz
   ·
    exact nlt_trans hz ((List.pairwise_cons.1 s2).1 _ (List.mem_map_of_mem hy))
 refine List.pairwise_append.2 ⟨s1, List.pairwise_cons.2 ⟨fun x hx => ?_, s2⟩, fun x hx y hy => ?_⟩
 ·
  obtain ⟨y, hy, rfl⟩ := List.mem_map.1 hx; exact hb' y hy
 ·
  rcases List.mem_cons.1 hy with rfl | hy
  ·
   obtain ⟨z, hz, rfl⟩ := List.mem_map.1 hx
   cases hzr : nameLt (g z) y with
   | true => rfl
   | false => exact absurd (nlt_tri (ho z (ha z hz)) hzr (h3 z hz)) (hne z (ha z hz))
  ·
   exact s3 x hx y hy
theorem perm_new {l m : List Nat} {n : Nat} (hf : l.filter (fun j => decide (j ≠ n)) = m) (hc : l.count n = 1) : l.Perm (n :: m) := by
 refine List.perm_iff_count.2 fun a => ?_
 by_cases h : a = n
 ·
  subst h
  rw [List.count_cons_self, hc, ← hf, List.count_eq_zero.2 (by simp)]
 ·
  rw [List.count_cons_of_ne (fun h' => h h'.symm), ← hf, List.count_filter (by simpa using h)]
theorem Good.grow (h : Good e) {a : Nat} (ha : a < e.length) {left : Bool} {r : RefD} {b : UInt8} (hr : atE e r = none) (ho : r.own = false ∧ 1 ≤ r.n ∧ r.n ≤ 2000) : Good (growE e a left r b) where
 down := grow_down h.down ha
 root := by
  obtain ⟨x, hx, h1, h2⟩ := h.root
  refine ⟨_, grow_old hx, ?_, ?_⟩ <;> split <;> first | exact h1 | exact h2 | (unfold El.more; split <;> first | exact h1 | exact h2)
 own := fun i y hi hy => by
  rcases grow_inv ha hy with ⟨_, rfl⟩ | ⟨x, hx, rfl⟩
  ·
   exact ho
  ·
   have := h.own i x hi hx
   split
   ·
    unfold El.more; split <;> exact this
   ·
    exact this
 uniq := by
  have hm : (growE e a left r b).map El.name = e.map El.name ++ [r] := by
   refine List.ext_getElem? fun i => ?_
   by_cases hi : i < e.length
   ·
    obtain ⟨x, hx⟩ : ∃ x, e[i]? = some x := ⟨_, List.getElem?_eq_getElem hi⟩
    rw [List.getElem?_map, grow_old hx, List.getElem?_append_left (by simpa using hi), List.getElem?_map, hx]
    simp only [Option.map_some]
    split
    ·
     unfold El.more; split <;> rfl
    ·
     rfl
   ·
    by_cases hn : i = e.length
    ·
     subst hn
     rw [List.getElem?_map, grow_new ha, List.getElem?_append_right (by simp)]; simp
    ·
     rw [List.getElem?_eq_none_iff.2 (by rw [List.length_map, grow_length]; omega), List.getElem?_eq_none_iff.2 (by simp; omega)]
  rw [hm, List.nodup_append]
  refine ⟨h.uniq, by simp, fun x hx y hy => ?_⟩
  simp at hy; subst hy
  obtain ⟨z, hz, rfl⟩ := List.mem_map.1 hx
  exact atE_none.1 hr z hz
 perm := by
  have hp := perm_new (grow_filter (left := left) (r := r) (b := b) h.down ha 0 h.pos) (by rw [grow_count h.down ha 0 h.pos]; exact h.once ha)
  rw [grow_length, List.range_succ]
  exact hp.trans ((h.perm.cons e.length).trans (List.perm_append_singleton _ _).symm)
 sort := fun i y hy => by
  have hf : ∀ l : List Nat, (∀ c ∈ l, c < e.length) → nms (growE e a left r b) l = nms e l := fun l hl => List.map_congr_left fun c hc => by rw [grow_nm ha, if_neg (by have := hl c hc; omega)]
  rcases grow_inv ha hy with ⟨_, rfl⟩ | ⟨x, hx, rfl⟩
  ·
   exact ⟨List.Pairwise.nil, List.Pairwise.nil⟩
  ·
   have hd := h.down i x hx
   have hs := h.sort i x hx
   have h1 := hf x.left fun c hc => (hd c (.inl hc)).2
   have h2 := hf x.right fun c hc => (hd c (.inr hc)).2
   have hput : ∀ l : List Nat, Srt (nms e l) → (∀ c ∈ l, c < e.length) → Srt (nms (growE e a left r b) (kid e r l)) := fun l hs hl =>
    putN_srt hs (fun c hc => by rw [grow_nm ha, if_neg (by have := hl c hc; omega)]) (by rw [grow_nm ha, if_pos rfl])
     (fun c hc => by
      obtain ⟨z, hz⟩ : ∃ z, e[c]? = some z := ⟨_, List.getElem?_eq_getElem (hl c hc)⟩
      rw [nm_at hz]; exact atE_none.1 hr z (List.mem_of_getElem? hz))
     (fun c hc => by
      obtain ⟨z, hz⟩ : ∃ z, e[c]? = some z := ⟨_, List.getElem?_eq_getElem (hl c hc)⟩
      rw [nm_at hz, ho.1]; exact h.ownF hz)
   split
   ·
    unfold El.more
    split
    ·
     exact ⟨hput _ hs.1 fun c hc => (hd c (.inl hc)).2, by show Srt (nms _ x.right); rw [h2]; exact hs.2⟩
    ·
     exact ⟨by show Srt (nms _ x.left); rw [h1]; exact hs.1, hput _ hs.2 fun c hc => (hd c (.inr hc)).2⟩
   ·
    rw [h1, h2]; exact hs
end
def goneAt (e : List El) (i : Nat) : Bool := ((e[i]?).map El.gone).getD true
def byteAt (e : List El) (i : Nat) : UInt8 := ((e[i]?).map El.byte).getD 0
def seenE (e : List El) : List Nat := (orderE e).filter fun i => !goneAt e i
def textE (e : List El) : List UInt8 := (seenE e).map (byteAt e)
def lmF (e : List El) : Nat → Nat → Nat
 | 0, i => i
 | k + 1, i => match e[i]? with
  | none => i
  | some x => match x.left with
   | [] => i
   | c :: _ => lmF e k c
def lmE (e : List El) (i : Nat) : Nat := lmF e e.length i
def gapAt (e : List El) (a : Nat) : RefD × Bool := match ((e[a]?).map El.right).getD [] with
 | [] => (nm e a, false)
 | c :: _ => (nm e (lmE e c), true)
def gapI (e : List El) (n : Int) : Nat := if n = 0 then 0 else ((seenE e)[(n - 1).toNat]?).getD 0
def gapE (e : List El) (n : Int) : RefD × Bool × Bool := if n < 0 ∨ ((seenE e).length : Int) < n then (RefD.zero, false, false) else ((gapAt e (gapI e n)).1, (gapAt e (gapI e n)).2, true)
section
variable {e : List El}
theorem goneAt_at {i : Nat} {x : El} (h : e[i]? = some x) : goneAt e i = x.gone := by rw [goneAt, h]; rfl
theorem byteAt_at {i : Nat} {x : El} (h : e[i]? = some x) : byteAt e i = x.byte := by rw [byteAt, h]; rfl
theorem seen_lt (h : Down e) {i : Nat} (hi : i ∈ seenE e) : i < e.length := order_lt h (List.mem_filter.1 hi).1
theorem seen_gone {i : Nat} (hi : i ∈ seenE e) : goneAt e i = false := by have := (List.mem_filter.1 hi).2; simpa using this
theorem Good.seen_nodup (h : Good e) : (seenE e).Nodup := List.Nodup.sublist List.filter_sublist h.nodup
theorem Good.seen_mem (h : Good e) {i : Nat} {x : El} (hx : e[i]? = some x) : i ∈ seenE e ↔ x.gone = false := by
 rw [seenE, List.mem_filter, h.mem, goneAt_at hx]
 have := (List.getElem?_eq_some_iff.1 hx).1
 simp [this]
theorem Good.seen_pos (h : Good e) {i : Nat} (hi : i ∈ seenE e) : 0 < i := by
 have hg := seen_gone hi
 obtain ⟨x, hx, _, hxg⟩ := h.root
 by_cases h0 : i = 0
 ·
  subst h0; rw [goneAt_at hx, hxg] at hg; cases hg
 ·
  omega
theorem Good.seen_length (h : Good e) : (seenE e).length = e.countP fun x => !x.gone := by
 have h1 : (seenE e).Perm ((List.range e.length).filter fun i => !goneAt e i) := h.perm.filter _
 rw [h1.length_eq]
 have key : ∀ (l : List El), ((List.range l.length).filter fun i => !goneAt l i).length = l.countP fun x => !x.gone := by
  intro l
  rw [← List.countP_eq_length_filter]
  have : l.map (fun x => !x.gone) = (List.range l.length).map fun i => !goneAt l i := by
   refine List.ext_getElem? fun i => ?_
   rw [List.getElem?_map, List.getElem?_map]
   by_cases hi : i < l.length
   ·
    rw [List.getElem?_eq_getElem hi, List.getElem?_range hi]
    simp only [Option.map_some]
    rw [goneAt_at (List.getElem?_eq_getElem hi)]
   ·
    rw [List.getElem?_eq_none_iff.2 om_, List.getElem?_eq_none_iff.2 (by simp; omega)]; rfl
  have h2 := congrArg (List.countP id) this
  rw [List.countP_map, List.countP_map] at h2
  exact h2.symm
 exact key e
theorem lm_eq (h : Down e) {i : Nat} {x : El} (hx : e[i]? = some x) : lmE e i = match x.left with | [] => i | c :: _ => lmE e c := by
 have key : ∀ k k' i, e.length ≤ k + i → e.length ≤ k' + i → lmF e k i = lmF e k' i := by
  intro k
  induction k with
  | zero =>
   intro k' i h1 _
   have : e[i]? = none := List.getElem?_eq_none_iff.2 om_
   cases k' <;> simp [lmF, this]
  | succ k ih =>
   intro k' i h1 h2
   cases k' with
   | zero =>
    have : e[i]? = none := List.getElem?_eq_none_iff.2 om_
    simp [lmF, this]
   | succ k' =>
    rw [lmF, lmF]
    cases hx : e[i]? with
    | none => rfl
    | some x =>
     cases hl : x.left with
     | nil => simp [hl]
     | cons c r =>
      have := h i x hx c (.inl (by simp [hl]))
      simp only [hl]
      exact ih k' c om_ om_
 have hi := (List.getElem?_eq_some_iff.1 hx).1
 obtain ⟨k, hk⟩ : ∃ k, e.length = k + 1 := ⟨e.length - 1, by omega⟩
 rw [lmE, hk, lmF, hx]
 cases hl : x.left with
 | nil => simp only [hl]
 | cons c r =>
  have := h i x hx c (.inl (by simp [hl]))
  simp only [hl]
  exact key k e.length c om_ om_
theorem lm_head (h : Down e) : ∀ i, i < e.length → ∃ l, walkE e i = lmE e i :: l := by
 refine down_ind h fun i x hx ih => ?_
 rw [walkE_eq h hx, lm_eq h hx]
 cases hl : x.left with
 | nil => exact ⟨_, rfl⟩
 | cons c r =>
  obtain ⟨l, hl'⟩ := ih c (.inl (by simp [hl])) (h i x hx c (.inl (by simp [hl]))).2
  refine ⟨l ++ r.flatMap (walkE e) ++ i :: x.right.flatMap (walkE e), ?_⟩
  simp only [List.flatMap_cons, hl']
  simp
theorem lm_left (h : Down e) : ∀ i, i < e.length → lmE e i < e.length ∧ ((e[lmE e i]?).map El.left).getD [] = [] := by
 refine down_ind h fun i x hx ih => ?_
 rw [lm_eq h hx]
 cases hl : x.left with
 | nil => simp only; exact ⟨(List.getElem?_eq_some_iff.1 hx).1, by rw [hx]; simp [hl]⟩
 | cons c r => exact ih c (.inl (by simp [hl])) (h i x hx c (.inl (by simp [hl]))).2
def Fol (a b : Nat) (l : List Nat) : Prop := ∀ x y, l = x ++ a :: y → ∃ z, y = b :: z
theorem Fol.app {a b : Nat} {l m : List Nat} (hl : Fol a b l) (hm : Fol a b m) : Fol a b (l ++ m) := by
 intro x y he
 rcases List.append_eq_append_iff.1 he with ⟨t, h1, h2⟩ | ⟨t, h1, h2⟩
 ·
  exact hm t y h2
 ·
  cases t with
  | nil => exact hm [] y h2.symm
  | cons c t =>
   simp only [List.cons_append, List.cons.injEq] at h2
   obtain ⟨rfl, h2⟩ := h2
   obtain ⟨z, rfl⟩ := hl x t h1
   exact ⟨z ++ m, h2⟩
theorem Fol.flat {a b : Nat} {l : List Nat} {f : Nat → List Nat} (h : ∀ c ∈ l, Fol a b (f c)) : Fol a b (l.flatMap f) := by
 induction l with
 | nil => intro x y he; cases x <;> cases he
 | cons c r ih => rw [List.flatMap_cons]; exact (h c (by simp)).app (ih fun d hd => h d (by simp [hd]))
theorem Fol.one {a b c : Nat} (h : c ≠ a) : Fol a b [c] := by
 intro x y he
 cases x with
 | nil => simp at he; exact absurd he.1 h
 | cons d x => simp at he
theorem order_fol (h : Down e) {a c : Nat} {r : List Nat} (hr : ((e[a]?).map El.right).getD [] = c :: r) : ∀ i, i < e.length → Fol a (lmE e c) (walkE e i) := by
 refine down_ind h fun i x hx ih => ?_
 have hd := h i x hx
 have f1 : Fol a (lmE e c) (x.left.flatMap (walkE e)) := Fol.flat fun d hd' => ih d (.inl hd') (hd d (.inl hd')).2
 have f2 : Fol a (lmE e c) (x.right.flatMap (walkE e)) := Fol.flat fun d hd' => ih d (.inr hd') (hd d (.inr hd')).2
 rw [walkE_eq h hx]
 refine f1.app ?_
 by_cases hia : i = a
 ·
  subst hia
  rw [hx] at hr
  have hr : x.right = c :: r := hr
  obtain ⟨l, hl⟩ := lm_head h c (hd c (.inr (by simp [hr]))).2
  intro p y he
  cases p with
  | nil =>
   simp only [List.nil_append, List.cons.injEq, true_and] at he
   rw [hr, List.flatMap_cons, hl] at he
   exact ⟨l ++ r.flatMap (walkE e), by rw [← he]; rfl⟩
  | cons q p =>
   simp only [List.cons_append, List.cons.injEq] at he
   exact f2 p y he.2
 ·
  exact (Fol.one hia).app f2
end
end Go.Fu
