/- A digest as an argument of this program. No condition. -/
import Derived.Test.YtmndofgagngcgaaOg
set_option linter.unusedSimpArgs false
set_option linter.unusedVariables false
namespace Go.Proofs.Ytmndofgagngcgaa
open Go.RowKit Go.Fw Go.WideShapes Go.ChangeShapes Go.ChangeAt Go.Deep
section
variable {H : Type} {en : TypeId × Value → H} {w : World} {v : Value} {d : DataW H} {ps : List MemPlace} {base : Nat}
set_option maxRecDepth 100000 in
theorem arg_idg (hv : Value.okWide Try.prog w .any base 50 v) (h : DataW.Trod en Try.prog w 0 (fun _ => true) true 50 v d ps) (hw : ∀ n ∈ d.weights Try.prog 50, n ≤ reachBytes) : ∃ i, v = digV i := by
  obtain ⟨i, hi⟩ := rd_dig.arg h hw
  obtain ⟨cs, rfl, _⟩ := okWide_arr Try.underlying50 hv
  refine ⟨i, ?_⟩
  have : cs.toList = digC i := by simpa [Value.cells] using hi
  show Value.agg cs = .agg (digC i).toArray
  rw [← this]
end
end Go.Proofs.Ytmndofgagngcgaa
