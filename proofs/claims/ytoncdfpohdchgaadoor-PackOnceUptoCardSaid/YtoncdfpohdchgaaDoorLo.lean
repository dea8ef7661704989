/- Own, walked. No condition. -/
-- @alt f{recension/commit.May}: Ko -> Kg
import Derived.Test.YtoncdfpohdchgaaDoorKo
set_option linter.unusedSimpArgs false
set_option linter.unusedVariables false
namespace Go.Proofs.YtoncdfpohdchgaaDoor
open Go.RowKit Go.Fw Go.Pl
theorem one_flat {α : Type} {enc : α → List Value} (h : ∀ x, ∀ u ∈ enc x, u.oneCell' = true) {xs : List α} : ∀ u ∈ (xs.map enc).flatten, u.oneCell' = true := by
  intro u hu
  obtain ⟨l, hl, hu⟩ := List.mem_flatten.1 hu
  obtain ⟨d, _, rfl⟩ := List.mem_map.1 hl
  exact h d u hu

end Go.Proofs.YtoncdfpohdchgaaDoor
