/- Whether two commits are the same: slices.Equal at digests and operations, commit.Same and the reference's, walked. No condition. -/
import Derived.Test.YtoncdfpohdchgaaDoorEn
set_option linter.unusedSimpArgs false
set_option linter.unusedVariables false
namespace Go.Proofs.YtoncdfpohdchgaaDoor
open Go.RowKit Go.Fw Go.Pl
/-- Whether two commits are the same. -/
def sameB (a b : ComD) : Bool := decide (a.parents = b.parents) && (a.author.toList == b.author.toList) && (a.note.toList == b.note.toList) && decide (a.ops = b.ops)
theorem list_part {α : Type} {xs ys : List α} {i : Nat} {a b : α} (ha : xs[i]? = some a) (hb : ys[i]? = some b) (h : ¬ a = b) : xs ≠ ys := by
  intro e; subst e; rw [ha] at hb; injection hb with hb; exact h hb
theorem list_whole {α : Type} {xs ys : List α} {i : Nat} (hl : xs.length = ys.length) (hi : xs.length ≤ i) (ht : xs.take i = ys.take i) : xs = ys := by
  rwa [List.take_of_length_le hi, List.take_of_length_le (by omega)] at ht
theorem take_more {α : Type} {xs ys : List α} {i : Nat} {a b : α} (ht : xs.take i = ys.take i) (ha : xs[i]? = some a) (hb : ys[i]? = some b) (h : a = b) : xs.take (i + 1) = ys.take (i + 1) := by
  rw [take_succ ha, take_succ hb, ht, h]

end Go.Proofs.YtoncdfpohdchgaaDoor
