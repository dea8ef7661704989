/- The plain law of a commit's references: sorting what is gathered once is sorting by insertion. No condition; no program. -/
import Derived.Test.YtkbmlnkoejlgmaaDoorSg
set_option linter.unusedSimpArgs false
set_option linter.unusedVariables false
namespace Go.Pl
open Go.Fw Go.Proofs Go.Sort
abbrev Up (l : List Dig) : Prop := l.Pairwise fun x y => lessB x y = true
theorem up_eq : ∀ {a b : List Dig}, Up a → Up b → (∀ x, x ∈ a ↔ x ∈ b) → a = b
  | [], [], _, _, _ => rfl
  | [], y :: b, _, _, h => by have := (h y).2 (by simp); simp at this
  | x :: a, [], _, _, h => by have := (h x).1 (by simp); simp at this
  | x :: a, y :: b, ha, hb, h => by
    have ha' := List.pairwise_cons.1 ha
    have hb' := List.pairwise_cons.1 hb
    have e : x = y := by
      have h1 := (h x).1 (by simp)
      have h2 := (h y).2 (by simp)
      rcases List.mem_cons.1 h1 with h1 | h1
      · exact h1
      rcases List.mem_cons.1 h2 with h2 | h2
      · exact h2.symm
      have h3 := hb'.1 x h1
      have h4 := ha'.1 y h2
      rw [less_asymm h3] at h4
      cases h4
    subst e
    have := up_eq ha'.2 hb'.2 fun z => by
      constructor
      · intro hz
        rcases List.mem_cons.1 ((h z).1 (by simp [hz])) with h1 | h1
        · subst h1; have := ha'.1 z hz; rw [less_irrefl] at this; cases this
        · exact h1
      · intro hz
        rcases List.mem_cons.1 ((h z).2 (by simp [hz])) with h1 | h1
        · subst h1; have := hb'.1 z hz; rw [less_irrefl] at this; cases this
        · exact h1
    rw [this]
def ins (d : Dig) : List Dig → List Dig
  | [] => [d]
  | x :: r => if lessB x d = true then x :: ins d r else if x = d then x :: r else d :: x :: r
theorem insD_eq (d : Dig) : ∀ out, insD out d = ins d out
  | [] => by simp [insD, insAt, ins]
  | x :: r => by
    have ih := insD_eq d r
    unfold insD at ih ⊢
    rw [insAt, ins]
    split
    · simp only [List.getElem?_cons_succ, List.take_succ_cons, List.drop_succ_cons]
      rw [← ih]
      split <;> simp
    · simp only [List.getElem?_cons_zero, Option.some.injEq, List.take_zero, List.drop_zero, List.nil_append]
theorem mem_ins {d y : Dig} : ∀ {out : List Dig}, y ∈ ins d out ↔ y = d ∨ y ∈ out
  | [] => by simp [ins]
  | x :: r => by
    rw [ins]
    split
    · rw [List.mem_cons, mem_ins, List.mem_cons]
      constructor
      · rintro (h | h | h)
        · exact .inr (.inl h)
        · exact .inl h
        · exact .inr (.inr h)
      · rintro (h | h | h)
        · exact .inr (.inl h)
        · exact .inl h
        · exact .inr (.inr h)
    · split
      · rename_i h; subst h
        simp
      · simp
theorem up_ins {d : Dig} : ∀ {out : List Dig}, Up out → Up (ins d out)
  | [], _ => by simp [ins, Up]
  | x :: r, h => by
    have h' := List.pairwise_cons.1 h
    rw [ins]
    split
    · rename_i hl
      refine List.pairwise_cons.2 ⟨fun y hy => ?_, up_ins h'.2⟩
      rcases mem_ins.1 hy with rfl | hy
      · exact hl
      · exact h'.1 y hy
    · rename_i hl
      split
      · exact h
      · rename_i hne
        have hdx : lessB d x = true := by
          cases hc : lessB d x with
          | true => rfl
          | false => exact absurd (less_tri (by simpa using hl) hc) hne
        refine List.pairwise_cons.2 ⟨fun y hy => ?_, h⟩
        rcases List.mem_cons.1 hy with rfl | hy
        · exact hdx
        · exact less_trans hdx (h'.1 y hy)
theorem srt_up (l : List Dig) : ∀ out, Up out → Up (l.foldl insD out) := by
  induction l with
  | nil => intro out h; exact h
  | cons d l ih => intro out h; rw [List.foldl_cons]; exact ih _ (by rw [insD_eq]; exact up_ins h)
theorem srt_mem (l : List Dig) (y : Dig) : ∀ out, y ∈ l.foldl insD out ↔ y ∈ l ∨ y ∈ out := by
  induction l with
  | nil => intro out; simp
  | cons d l ih =>
    intro out
    rw [List.foldl_cons, ih, insD_eq, mem_ins, List.mem_cons]
    constructor
    · rintro (h | h | h)
      · exact .inl (.inr h)
      · exact .inl (.inl h)
      · exact .inr h
    · rintro ((h | h) | h)
      · exact .inr (.inl h)
      · exact .inl h
      · exact .inr (.inr h)
theorem sortedD_mem (l : List Dig) (y : Dig) : y ∈ sortedD l ↔ y ∈ l := (List.mergeSort_perm l _).mem_iff
theorem sortedD_length (l : List Dig) : (sortedD l).length = l.length := (List.mergeSort_perm l _).length_eq
theorem sortedD_up {l : List Dig} (h : l.Nodup) : Up (sortedD l) := by
  have h1 : (sortedD l).Pairwise fun x y => (!(ltOf cfD) y x) = true := List.pairwise_mergeSort (le := fun x y => !(ltOf cfD) y x) (fun a b c h k => by
      simp only [lt_cfD, Bool.not_eq_true'] at h k ⊢
      have := swo_cfD.ntrans c b a (by rw [lt_cfD]; exact k) (by rw [lt_cfD]; exact h)
      rwa [lt_cfD] at this) (fun a b => by
      simp only [lt_cfD, Bool.or_eq_true, Bool.not_eq_true']
      cases hc : lessB b a with
      | false => exact .inl rfl
      | true => exact .inr (less_asymm hc)) l
  have h2 : (sortedD l).Nodup := (List.mergeSort_perm l _).nodup_iff.2 h
  refine (h1.and h2).imp fun {a b} hab => ?_
  have h3 := hab.1
  simp only [lt_cfD, Bool.not_eq_true'] at h3
  cases hc : lessB a b with
  | true => rfl
  | false => exact absurd (less_tri hc h3) hab.2
/-- Gathered once, in order of coming. -/
def addR (keep : OpD → Bool) (out : List Dig) (o : OpD) : List Dig := if keep o = true ∧ ¬ o.at_.c ∈ out then out ++ [o.at_.c] else out
def gathC (l : List OpD) : List Dig := l.foldl (addR fun o => decide (refKind o.at_ = 2)) []
def gathR (l : List OpD) : List Dig := (l.filter fun o => decide (refKind o.at_ = 2)).map fun o => o.at_.c
theorem add_nodup {keep : OpD → Bool} (l : List OpD) : ∀ out : List Dig, out.Nodup → (l.foldl (addR keep) out).Nodup := by
  induction l with
  | nil => intro out h; exact h
  | cons o l ih =>
    intro out h
    rw [List.foldl_cons]
    refine ih _ ?_
    unfold addR
    split
    · rename_i hk
      rw [List.nodup_append]
      refine ⟨h, by simp, fun a ha b hb => ?_⟩
      rw [List.mem_singleton] at hb
      subst hb
      exact fun e => hk.2 (e ▸ ha)
    · exact h
theorem add_mem {keep : OpD → Bool} (l : List OpD) (y : Dig) : ∀ out : List Dig, y ∈ l.foldl (addR keep) out ↔ y ∈ (l.filter keep).map (fun o => o.at_.c) ∨ y ∈ out := by
  induction l with
  | nil => intro out; simp
  | cons o l ih =>
    intro out
    rw [List.foldl_cons, ih, List.filter_cons]
    unfold addR
    by_cases hk : keep o = true
    · simp only [hk, true_and, if_true, List.map_cons, List.mem_cons]
      split
      · rw [List.mem_append, List.mem_singleton]
        constructor
        · rintro (h | h | h)
          · exact .inl (.inr h)
          · exact .inr h
          · exact .inl (.inl h)
        · rintro ((h | h) | h)
          · exact .inr (.inr h)
          · exact .inl h
          · exact .inr (.inl h)
      · rename_i hm
        have hm := Classical.not_not.1 hm
        constructor
        · rintro (h | h)
          · exact .inl (.inr h)
          · exact .inr h
        · rintro ((h | h) | h)
          · subst h; exact .inr hm
          · exact .inl h
          · exact .inr h
    · simp [hk]
theorem add_len {keep : OpD → Bool} (l : List OpD) : ∀ out : List Dig, (l.foldl (addR keep) out).length ≤ out.length + l.length := by
  induction l with
  | nil => intro out; simp
  | cons o l ih =>
    intro out
    have h1 := ih (addR keep out o)
    have h2 : (addR keep out o).length ≤ out.length + 1 := by
      unfold addR; split <;> simp
    simp only [List.foldl_cons, List.length_cons]; omega
theorem gathR_len (l : List OpD) : (gathR l).length ≤ l.length := by
  unfold gathR
  rw [List.length_map]; exact List.length_filter_le _ _
theorem gathC_take {l : List OpD} {i : Nat} {o : OpD} (h : l[i]? = some o) : gathC (l.take (i + 1)) = addR (fun o => decide (refKind o.at_ = 2)) (gathC (l.take i)) o := by
  rw [take_succ h, gathC, List.foldl_append]; rfl
theorem gathR_take {l : List OpD} {i : Nat} {o : OpD} (h : l[i]? = some o) : gathR (l.take (i + 1)) = gathR (l.take i) ++ if refKind o.at_ = 2 then [o.at_.c] else [] := by
  rw [take_succ h, gathR, List.filter_append, List.map_append]
  congr 1
  by_cases hk : refKind o.at_ = 2 <;> simp [hk]
/-- The law. -/
theorem refs_law (l : List OpD) : sortedD (gathC l) = srtD (gathR l) :=
  up_eq (sortedD_up (add_nodup l [] List.nodup_nil)) (srt_up _ _ List.Pairwise.nil) fun x => by
    rw [sortedD_mem, gathC, add_mem, srtD, srt_mem, gathR]
theorem keep_iff (r : RefD) : (¬ rootB r = true ∧ ¬ r.own = true ∧ refB r = true) ↔ refKind r = 2 := by
  unfold rootB refB refKind
  simp only [decide_eq_true_eq]
  constructor
  · rintro ⟨h1, h2, h3⟩
    rw [if_neg h2] at h3 ⊢
    simp only [rootB, Bool.or_eq_true, decide_eq_true_eq, Bool.and_eq_true] at h3
    rcases h3 with h3 | h3
    · exact absurd h3 h1
    · rw [if_pos ⟨by omega, by omega⟩]
  · intro h
    split at h
    · split at h <;> simp at h
    · rename_i h2
      split at h
      · rename_i h3
        refine ⟨fun e => ?_, h2, ?_⟩
        · subst e; simp [RefD.zero] at h3
        · rw [if_neg h2]
          simp only [Bool.or_eq_true, decide_eq_true_eq, Bool.and_eq_true]
          exact .inr ⟨by omega, by omega⟩
      · split at h <;> simp at h
end Go.Pl
