/- The order of marked nodes: what it computes. No condition. -/
import Derived.Test.YtecolkngbcgmcaaGm
set_option linter.unusedSimpArgs false
set_option linter.unusedVariables false
namespace Go.Pl
open Go.Fw
/-- Node i may come next: marked, not yet come, no better one before it, its parents have come. -/
def nextB (l : List Nd) (In C : List Bool) (best : Option Nat) (i : Nat) (n : Nd) : Bool :=
  decide (In[i]? = some true) && !decide (C[i]? = some true) && (match best with | none => true | some b => lessB n.id (idAt l b)) && !(n.ps.any fun d => !bitAt C l d)
/-- The best place among the first i. -/
def bestD (l : List Nd) (In C : List Bool) : Nat → Option Nat
  | 0 => none
  | i + 1 => match l[i]? with
    | some n => if nextB l In C (bestD l In C i) i n = true then some i else bestD l In C i
    | none => bestD l In C i
def orderD (l : List Nd) (In : List Bool) : Nat → List Bool → List Dig → List Dig
  | 0, _, out => out
  | k + 1, C, out => match bestD l In C l.length with
    | none => out
    | some b => orderD l In k (C.set b true) (out ++ [idAt l b])
def orderL (l : List Nd) (In : List Bool) : List Dig := orderD l In (l.length + 1) (List.replicate l.length false) []
theorem bestD_at {l : List Nd} {In C : List Bool} {i : Nat} {n : Nd} (h : l[i]? = some n) : bestD l In C (i + 1) = if nextB l In C (bestD l In C i) i n = true then some i else bestD l In C i := by
  rw [bestD, h]
theorem nextB_iff {l : List Nd} {In C : List Bool} {best : Option Nat} {i : Nat} {n : Nd} : nextB l In C best i n = true ↔ In[i]? = some true ∧ ¬ C[i]? = some true ∧ (∀ b, best = some b → lessB n.id (idAt l b) = true) ∧ (n.ps.any fun d => !bitAt C l d) = false := by
  cases best <;> simp only [nextB, Bool.and_eq_true, decide_eq_true_eq, Bool.not_eq_true', decide_eq_false_iff_not, and_assoc] <;> simp
theorem bestD_some {l : List Nd} {In C : List Bool} : ∀ {i b : Nat}, bestD l In C i = some b → b < i ∧ In[b]? = some true ∧ ¬ C[b]? = some true
  | 0, b, h => by cases h
  | i + 1, b, h => by
    rw [bestD] at h
    split at h
    · split at h
      · cases h
        rename_i hn
        simp only [nextB, Bool.and_eq_true, decide_eq_true_eq, Bool.not_eq_true', decide_eq_false_iff_not] at hn
        exact ⟨Nat.lt_succ_self _, hn.1.1.1, hn.1.1.2⟩
      · have := bestD_some h; exact ⟨by omega, this.2⟩
    · have := bestD_some h; exact ⟨by omega, this.2⟩
theorem count_set : ∀ {C : List Bool} {b : Nat}, C[b]? = some false → (C.set b true).count false + 1 = C.count false
  | [], b, h => by simp at h
  | c :: C, 0, h => by simp at h; subst h; simp
  | c :: C, b + 1, h => by
    simp only [List.getElem?_cons_succ] at h
    have := count_set h
    simp only [List.set_cons_succ, List.count_cons]
    omega
theorem orderD_none {l : List Nd} {In C : List Bool} {k : Nat} {out : List Dig} (h : bestD l In C l.length = none) : orderD l In (k + 1) C out = out := by
  rw [orderD, h]
theorem orderD_some {l : List Nd} {In C : List Bool} {k b : Nat} {out : List Dig} (h : bestD l In C l.length = some b) : orderD l In (k + 1) C out = orderD l In k (C.set b true) (out ++ [idAt l b]) := by
  rw [orderD, h]
end Go.Pl


