/- Operations of a script, step by step. No condition; no program. -/
import Derived.Test.YtmndofgagngcgaaG8
set_option linter.unusedSimpArgs false
set_option linter.unusedVariables false
namespace Go.Fu
open Go.Pl Go.Fw
structure StS where
  at_ : Nat
  kept : Nat
  out : List OpD
  run : Bool
def putOp (e : List El) (s : StS) (y : UInt8) : OpD := if s.run = true then ⟨1, false, ⟨true, Dig.zero, (s.out.length : Int)⟩, y⟩ else ⟨1, (gapE e (s.kept : Int)).2.1, (gapE e (s.kept : Int)).1, y⟩
def stepO (e : List El) (s : StS) : Stp → StS
  | .keep => ⟨s.at_ + 1, s.at_ + 1, s.out, false⟩
  | .cut => ⟨s.at_ + 1, s.kept, s.out ++ cutOps e s.at_ 1, false⟩
  | .put y => ⟨s.at_, s.kept, s.out ++ [putOp e s y], true⟩
def st0 : StS := ⟨0, 0, [], false⟩
theorem cutOps_succ (e : List El) (a n : Nat) : cutOps e a (n + 1) = cutOps e a n ++ cutOps e (a + n) 1 := by
  unfold cutOps
  rw [List.take_add, List.map_append, List.drop_drop]
theorem insOps_succ {g : RefD × Bool × Bool} {n : Nat} {s : List UInt8} {y : UInt8} (h : s ≠ []) : insOps g n (s ++ [y]) = insOps g n s ++ [⟨1, false, ⟨true, Dig.zero, ((n + s.length : Nat) : Int)⟩, y⟩] := by
  unfold insOps
  rw [List.mapIdx_append]
  congr 1
  have : s.length ≠ 0 := fun e => h (List.eq_nil_of_length_eq_zero e)
  simp [this]
theorem openE_same {l0 : List EdD} {x : EdD} {k : Nat} (h : x.kind = k) : openE (l0 ++ [x]) k = l0 ++ [x] := by
  rw [openE, if_pos (by simp [h])]
theorem modify_last {α : Type} {l : List α} {x : α} {f : α → α} : (l ++ [x]).modify ((l ++ [x]).length - 1) f = l ++ [f x] := by
  apply List.ext_getElem?
  intro i
  rw [List.getElem?_modify, List.getElem?_append, List.getElem?_append]
  by_cases hi : i < l.length
  · rw [if_pos hi, if_pos hi]
    have : ¬ (l ++ [x]).length - 1 = i := by simp; omega
    cases l[i]? with
    | none => rfl
    | some z => show some (if (l ++ [x]).length - 1 = i then _ else z) = _; rw [if_neg this]
  · rw [if_neg hi, if_neg hi]
    by_cases hj : i = l.length
    · subst hj; simp
    · rw [List.getElem?_eq_none_iff.2 (by simp; omega), List.getElem?_eq_none_iff.2 (by simp; omega)]; rfl
theorem addE_same {l0 : List EdD} {x : EdD} {s : Stp} (h : x.kind = s.kind) : addE (l0 ++ [x]) s = l0 ++ [x.more s] := by
  unfold addE
  rw [openE_same h, modify_last]
theorem addE_else {l : List EdD} {s : Stp} (h : l.getLast?.map EdD.kind ≠ some s.kind) : addE l s = l ++ [EdD.more ⟨s.kind, 0, []⟩ s] := by
  unfold addE
  rw [openE, if_neg h, modify_last]
/-- Edits, and steps. -/
def SameSt (e : List El) (l : List EdD) (t : StS) : Prop := t = ⟨(l.foldl (edOps e) ⟨0, 0, []⟩).at_, (l.foldl (edOps e) ⟨0, 0, []⟩).kept, (l.foldl (edOps e) ⟨0, 0, []⟩).out, decide (l.getLast?.map EdD.kind = some 3)⟩
theorem same_step {e : List El} {l : List EdD} {t : StS} (h : SameSt e l t) (hm : ∀ x ∈ l, x.May) (s : Stp) : SameSt e (addE l s) (stepO e t s) := by
  unfold SameSt at h ⊢
  by_cases hk : l.getLast?.map EdD.kind = some s.kind
  · obtain ⟨x, hx, hxk⟩ := Option.map_eq_some_iff.1 hk
    rw [List.getLast?_eq_some_iff] at hx
    obtain ⟨l0, rfl⟩ := hx
    have hxm := hm x (by simp)
    rw [addE_same hxk, List.foldl_append]
    rw [List.foldl_append] at h
    simp only [List.foldl_cons, List.foldl_nil] at h ⊢
    generalize l0.foldl (edOps e) ⟨0, 0, []⟩ = u at h ⊢
    cases s with
    | keep =>
      have hxk : x.kind = 1 := hxk
      subst h
      simp only [stepO, edOps, EdD.more, hxk, if_true, List.getLast?_append, List.getLast?_singleton, Option.some_or, Option.map_some]
      simp [Nat.add_assoc]
    | cut =>
      have hxk : x.kind = 2 := hxk
      subst h
      simp only [stepO, edOps, EdD.more, hxk, List.getLast?_append, List.getLast?_singleton, Option.some_or, Option.map_some]
      have hc := cutOps_succ e u.at_ x.n
      simp [Nat.add_assoc, hc]
    | put y =>
      have hxk : x.kind = 3 := hxk
      have hne : x.text ≠ [] := by
        unfold EdD.May at hxm
        rcases hxm with ⟨h, _⟩ | ⟨_, _, h⟩
        · omega
        · exact h
      subst h
      simp only [stepO, edOps, EdD.more, putOp, hxk, List.getLast?_append, List.getLast?_singleton, Option.some_or, Option.map_some]
      simp [insOps_succ hne, insOps_length]
  · rw [addE_else hk, List.foldl_append]
    simp only [List.foldl_cons, List.foldl_nil]
    generalize l.foldl (edOps e) ⟨0, 0, []⟩ = u at h ⊢
    cases s with
    | keep =>
      subst h
      simp [stepO, edOps, EdD.more, Stp.kind]
    | cut =>
      subst h
      simp [stepO, edOps, EdD.more, Stp.kind]
    | put y =>
      have hk : ¬ l.getLast?.map EdD.kind = some 3 := hk
      subst h
      simp [stepO, edOps, EdD.more, Stp.kind, putOp, insOps, hk]
theorem ops_steps (e : List El) (b : List UInt8) : opsE e b = ((stp (textE e) b).foldl (stepO e) st0).out := by
  have key : ∀ (ss : List Stp) (l : List EdD) (t : StS), SameSt e l t → (∀ x ∈ l, x.May) → SameSt e (ss.foldl addE l) (ss.foldl (stepO e) t) := fun ss => by
    induction ss with
    | nil => exact fun l t h _ => h
    | cons s r ih => exact fun l t h hm => ih _ _ (same_step h hm s) (addE_may hm s)
  have := key (stp (textE e) b) [] st0 rfl (fun x h => by cases h)
  unfold SameSt at this
  rw [this]; rfl
end Go.Fu
