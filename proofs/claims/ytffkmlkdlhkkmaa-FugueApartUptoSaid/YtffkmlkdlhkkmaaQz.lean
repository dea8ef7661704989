/- What must come. Plain. -/
import Derived.Test.YtffkmlkdlhkkmaaQc
set_option linter.unusedSimpArgs false
set_option linter.unusedVariables false
namespace Go.Fu
open Go.Fw Go.Pl
def D1 : Dig := ⟨1 :: List.replicate 31 0, rfl⟩
def aliveOps : List OpD := [⟨1, false, RefD.zero, 97⟩, ⟨1, false, ⟨true, Dig.zero, 1⟩, 98⟩]
theorem alive_e : wrongC Tr.new D1 aliveOps = 0 := by decide
theorem alive_t : textE (addT Tr.new D1 aliveOps).e = [97, 98] := by decide
theorem alive_g : gapE (addT Tr.new D1 aliveOps).e 1 = (⟨false, D1, 2⟩, true, true) := by decide
theorem alive_l : (addT Tr.new D1 aliveOps).e.countP (fun x => !x.gone) = 2 := by decide
/-- place: n among m + 1. -/
def placeI (n : Int) (m : Nat) : Int := (n.tmod (m + 1) + m + 1).tmod (m + 1)
theorem placeI_bound (n : Int) (m : Nat) : -((m : Int) + 1) < n.tmod (m + 1) ∧ n.tmod (m + 1) < (m : Int) + 1 := ⟨Int.lt_tmod_of_pos n (by omega), Int.tmod_lt_of_pos n (by omega)⟩
theorem placeI_le (n : Int) (m : Nat) : ∃ k : Nat, k ≤ m ∧ placeI n m = k := by
  have h1 := placeI_bound n m
  have h2 : 0 ≤ placeI n m := Int.tmod_nonneg _ (by omega)
  have h3 : placeI n m < (m : Int) + 1 := Int.tmod_lt_of_pos _ (by omega)
  exact ⟨(placeI n m).toNat, by omega, by omega⟩
end Go.Fu
