/- Where the elements stand that a script's operations make. Plain. -/
import Derived.Test.YtmndofgagngcgaaJu
set_option linter.unusedSimpArgs false
set_option linter.unusedVariables false
namespace Go.Fu
open Go.Pl Go.Fw
/-! ## One that comes last on the right -/
/-- Ahead of n there stands w. -/
def Pre (n w : Nat) (l : List Nat) : Prop := ∀ x y, l = x ++ n :: y → ∃ x', x = x' ++ [w]
theorem Pre.app {n w : Nat} {l m : List Nat} (hl : Pre n w l) (hm : Pre n w m) : Pre n w (l ++ m) := by
  intro x y he
  rcases List.append_eq_append_iff.1 he with ⟨t, h1, h2⟩ | ⟨t, h1, h2⟩
  · obtain ⟨x', hx⟩ := hm t y h2
    exact ⟨l ++ x', by rw [h1, hx]; simp⟩
  · cases t with
    | nil =>
      obtain ⟨x', hx⟩ := hm [] y h2.symm
      cases x' <;> cases hx
    | cons c t =>
      simp only [List.cons_append, List.cons.injEq] at h2
      obtain ⟨rfl, h2⟩ := h2
      exact hl x t h1
theorem Pre.flat {n w : Nat} {l : List Nat} {f : Nat → List Nat} (h : ∀ c ∈ l, Pre n w (f c)) : Pre n w (l.flatMap f) := by
  induction l with
  | nil => intro x y he; cases x <;> cases he
  | cons c r ih => rw [List.flatMap_cons]; exact (h c (by simp)).app (ih fun d hd => h d (by simp [hd]))
theorem Pre.none {n w : Nat} {l : List Nat} (h : n ∉ l) : Pre n w l := fun x y he => absurd (by rw [he]; simp) h
theorem grow_above {e : List El} {a : Nat} {s : Bool} {r : RefD} {b : UInt8} (h : Down e) (ha : a < e.length) : ∀ i, i < e.length → a < i → walkE (growE e a s r b) i = walkE e i := by
  refine down_ind h fun i x hx ih hai => ?_
  have hd := h i x hx
  rw [walkE_eq (grow_down h ha) (grow_old hx), walkE_eq h hx, if_neg (by omega)]
  rw [flatMap_same (l := x.left) fun c hc => ih c (.inl hc) (hd c (.inl hc)).2 (by have := (hd c (.inl hc)).1; omega), flatMap_same (l := x.right) fun c hc => ih c (.inr hc) (hd c (.inr hc)).2 (by have := (hd c (.inr hc)).1; omega)]
theorem walk_below {e : List El} (h : Down e) : ∀ i, i < e.length → ∀ j ∈ walkE e i, j < e.length := fun i hi j hj => by
  rcases walk_lt h i hi j hj with h | h
  · exact h.1
  · exact h
/-- A new one that comes last on the right stands behind all that stands beneath there. -/
theorem grow_end {e : List El} {a : Nat} {r : RefD} {b : UInt8} {z : El} (h : Down e) (ha : a < e.length) (hz : e[a]? = some z) (hp : kid e r z.right = z.right ++ [e.length]) {u : List Nat} {w : Nat} (hw : a :: z.right.flatMap (walkE e) = u ++ [w]) : ∀ i, i < e.length → Pre e.length w (walkE (growE e a false r b) i) := by
  refine down_ind h fun i x hx ih => ?_
  have hi := (List.getElem?_eq_some_iff.1 hx).1
  have hd := h i x hx
  have hn := grow_walk_new (left := false) (r := r) (b := b) h ha
  rw [walkE_eq (grow_down h ha) (grow_old hx)]
  by_cases hia : i = a
  · subst hia
    obtain rfl : x = z := Option.some.inj (hx.symm.trans hz)
    rw [if_pos rfl]
    show Pre _ _ (x.left.flatMap _ ++ i :: (kid e r x.right).flatMap _)
    rw [hp, List.flatMap_append, List.flatMap_cons, List.flatMap_nil, hn]
    have e1 : x.right.flatMap (walkE (growE e i false r b)) = x.right.flatMap (walkE e) := flatMap_same fun c hc => grow_above h ha c (hd c (.inr hc)).2 (hd c (.inr hc)).1
    rw [e1]
    refine (Pre.flat fun c hc => ih c (.inl hc) (hd c (.inl hc)).2).app ?_
    intro p q he
    have hnot : e.length ∉ i :: x.right.flatMap (walkE e) := fun hm => by
      rcases List.mem_cons.1 hm with hm | hm
      · omega
      · obtain ⟨c, hc, hm⟩ := List.mem_flatMap.1 hm
        have := walk_below h c (hd c (.inr hc)).2 _ hm
        omega
    have he2 : (i :: x.right.flatMap (walkE e)) ++ e.length :: [] = p ++ e.length :: q := by simpa using he
    have hpe : p = i :: x.right.flatMap (walkE e) := by
      rcases List.append_eq_append_iff.1 he2 with ⟨t, h1, h2⟩ | ⟨t, h1, h2⟩
      · cases t with
        | nil => simpa using h1
        | cons c t =>
          simp only [List.cons_append, List.cons.injEq] at h2
          have := congrArg List.length h2.2
          simp at this
      · cases t with
        | nil => simpa using h1.symm
        | cons c t =>
          simp only [List.cons_append, List.cons.injEq] at h2
          exact absurd (by rw [h1, ← h2.1]; simp) hnot
    exact ⟨u, by rw [hpe, hw]⟩
  · rw [if_neg hia]
    refine (Pre.flat fun c hc => ih c (.inl hc) (hd c (.inl hc)).2).app ?_
    have h1 : Pre e.length w [i] := Pre.none (by simp; omega)
    exact h1.app (Pre.flat fun c hc => ih c (.inr hc) (hd c (.inr hc)).2)
/-- A list with one more in it, of which it is known what stands ahead of it. -/
theorem place_new {l m u v : List Nat} {n w : Nat} (hf : l.filter (fun j => decide (j ≠ n)) = m) (hn : n ∈ l) (hc : l.count n = 1) (hp : Pre n w l) (hm : m = u ++ w :: v) (hd : m.Nodup) (hnm : n ∉ m) : l = u ++ w :: n :: v := by
  obtain ⟨p, q, hl⟩ := List.append_of_mem hn
  obtain ⟨p', hpw⟩ := hp p q hl
  subst hpw
  rw [hl, List.count_append, List.count_cons_self] at hc
  have hnp : n ∉ p' ++ [w] := fun h => by have := List.count_pos_iff.2 h; omega
  have hnq : n ∉ q := fun h => by have := List.count_pos_iff.2 h; omega
  have hkeep : ∀ k : List Nat, n ∉ k → k.filter (fun j => decide (j ≠ n)) = k := fun k hk => List.filter_eq_self.2 fun j hj => decide_eq_true fun e => hk (e ▸ hj)
  rw [hl, List.filter_append, List.filter_cons, if_neg (by simp), hkeep _ hnp, hkeep _ hnq, hm] at hf
  rw [hm] at hd
  have h2 : p' ++ w :: q = u ++ w :: v := by simpa using hf
  have hd2 := hd
  rw [← h2] at hd2
  have h3 : p' = u ∧ q = v := by
    have hwu : w ∉ u := fun h => (List.nodup_append.1 hd).2.2 w h w (by simp) rfl
    have hwp : w ∉ p' := fun h => (List.nodup_append.1 hd2).2.2 w h w (by simp) rfl
    rcases List.append_eq_append_iff.1 h2 with ⟨t, h4, h5⟩ | ⟨t, h4, h5⟩
    · cases t with
      | nil => simp at h4 h5; exact ⟨h4.symm, h5⟩
      | cons c t =>
        simp only [List.cons_append, List.cons.injEq] at h5
        exact absurd (by rw [h4, ← h5.1]; simp) hwu
    · cases t with
      | nil => simp at h4 h5; exact ⟨h4, h5.symm⟩
      | cons c t =>
        simp only [List.cons_append, List.cons.injEq] at h5
        exact absurd (by rw [h4, ← h5.1]; simp) hwp
  obtain ⟨rfl, rfl⟩ := h3
  rw [hl]; simp
theorem split_at {l u v u' v' : List Nat} {w : Nat} (h : l = u ++ w :: v) (h' : l = u' ++ w :: v') (hd : l.Nodup) : u = u' ∧ v = v' := by
  rw [h] at h' 
  have hd1 := hd
  rw [h] at hd1
  have hd2 := hd1
  rw [h'] at hd2
  have hwu : w ∉ u := fun k => (List.nodup_append.1 hd1).2.2 w k w (by simp) rfl
  have hwp : w ∉ u' := fun k => (List.nodup_append.1 hd2).2.2 w k w (by simp) rfl
  rcases List.append_eq_append_iff.1 h' with ⟨t, h4, h5⟩ | ⟨t, h4, h5⟩
  · cases t with
    | nil => simp at h4 h5; exact ⟨h4.symm, h5⟩
    | cons c t =>
      simp only [List.cons_append, List.cons.injEq] at h5
      exact absurd (by rw [h4, ← h5.1]; simp) hwp
  · cases t with
    | nil => simp at h4 h5; exact ⟨h4, h5.symm⟩
    | cons c t =>
      simp only [List.cons_append, List.cons.injEq] at h5
      exact absurd (by rw [h4, ← h5.1]; simp) hwu
/-- Among names that are smaller a new one comes last. -/
theorem putN_end {f : Nat → Bool} {n : Nat} : ∀ {l : List Nat}, (∀ c ∈ l, f c = false) → putN f n l = l ++ [n]
  | [], _ => rfl
  | c :: l, h => by
    rw [putN, if_neg (by rw [h c (by simp)]; decide), putN_end fun d hd => h d (by simp [hd])]; rfl
theorem kid_end {e : List El} {id : Dig} {k : Int} {l : List Nat} (h : ∀ c ∈ l, ∃ j : Int, nm e c = ⟨false, id, j⟩ ∧ j ≤ k) : kid e ⟨false, id, k⟩ l = l ++ [e.length] :=
  putN_end fun c hc => by
    obtain ⟨j, hj, hjk⟩ := h c hc
    rw [hj]
    simp only [nameLt, lq_irrefl, Bool.false_or]
    simp; omega
theorem gone_is {e : List El} {q i : Nat} : goneAt (goneE e q) i = (decide (i = q) || goneAt e i) := by
  unfold goneAt
  rw [gone_at]
  cases e[i]? with
  | none => simp
  | some x =>
    by_cases h : i = q
    · simp [h]
    · simp [h]
theorem addN_app {id : Dig} {ops more : List OpD} {e : List El} : ∀ {k : Nat}, k ≤ ops.length → addN id (ops ++ more) e k = addN id ops e k
  | 0, _ => rfl
  | k + 1, hk => by
    have ih := addN_app (id := id) (ops := ops) (more := more) (e := e) (k := k) (by omega)
    rw [addN, addN, ih, List.getElem?_append_left (by omega)]
end Go.Fu
