/- A held region of many orders: an invariant, each operation once. No condition; no program. -/
import Derived.Test.YtffkmlkdlhkkmaaOw
set_option linter.unusedSimpArgs false
set_option linter.unusedVariables false
namespace Go.Fw
open Go.RowKit
theorem Fr.le.trans' {a b c : Fr} (h : Fr.le a b) (h' : Fr.le b c) : Fr.le a c := fun t v hv => h' t v (h t v hv)
section
variable {P : Program} {ops : Array Oper} {S : World → Prop} {n : NN} {Φ : Exit → Fr → World → Prop}
theorem off_set {bs : List Bool} {i : Nat} (h : bs.toArray.getD i true = false) : (bs.set i true).countP (fun b => !b) + 1 = bs.countP (fun b => !b) := by
  have hi : bs[i]? = some false := by
    cases hb : bs[i]? with
    | none => rw [Array.getD_eq_getD_getElem?, List.getElem?_toArray, hb] at h; simp at h
    | some b => rw [Array.getD_eq_getD_getElem?, List.getElem?_toArray, hb] at h; simpa using h
  clear h
  induction bs generalizing i with
  | nil => simp at hi
  | cons b r ih =>
    cases i with
    | zero => simp at hi; subst hi; simp
    | succ i =>
      simp only [List.getElem?_cons_succ] at hi
      have := ih hi
      simp only [List.set_cons_succ, List.countP_cons]
      omega
theorem RH.weaken {fuel : Nat} {listed : Array Bool} {fr g : Fr} {w : World} (hl : Fr.le g fr) (h : RH P ops S n Φ fuel listed g w) : RH P ops S n Φ fuel listed fr w := fun a ha => h a (ha.weaken hl)
/-- An invariant over what is listed, till just these are. -/
theorem RH.inv (Inv : List Bool → Fr → World → Prop) (stop : List Bool)
    (hend : ∀ f w, Inv stop f w → RH P ops S n Φ (stop.countP fun b => !b) stop.toArray f w)
    (hmore : ∀ bs f w, Inv bs f w → bs ≠ stop → Region.ready .any ops bs.toArray ≠ [])
    (hstep : ∀ fuel bs f w i, Inv bs f w → bs ≠ stop → i ∈ Region.ready .any ops bs.toArray → (∀ f' w', Inv (bs.set i true) f' w' → RH P ops S n Φ fuel (bs.toArray.setIfInBounds i true) f' w') → RS P ops S n Φ fuel bs.toArray i f w) :
    ∀ (fuel : Nat) (bs : List Bool) (f : Fr) (w : World), Inv bs f w → bs.countP (fun b => !b) = fuel → RH P ops S n Φ fuel bs.toArray f w := by
  intro fuel
  induction fuel with
  | zero =>
    intro bs f w hI hc
    by_cases hs : bs = stop
    · subst hs; rw [← hc]; exact hend f w hI
    · exfalso
      obtain ⟨i, hi⟩ := List.exists_mem_of_ne_nil _ (hmore bs f w hI hs)
      have := off_set (mem_ready.1 hi).1
      omega
  | succ fuel ih =>
    intro bs f w hI hc
    by_cases hs : bs = stop
    · subst hs; rw [← hc]; exact hend f w hI
    intro a ha
    refine ⟨fun hr => absurd hr (hmore bs f w hI hs), fun i hi => ?_⟩
    have h1 := off_set (mem_ready.1 hi).1
    refine hstep fuel bs f w i hI hs hi (fun f' w' hI' => ?_) a ha
    have := ih (bs.set i true) f' w' hI' (by omega)
    rwa [← List.setIfInBounds_toArray] at this
end
end Go.Fw
