/- A commit as an argument of this program. No condition. -/
import Derived.Test.YtffkmlkdlhkkmaaOg
set_option linter.unusedSimpArgs false
set_option linter.unusedVariables false
namespace Go.Proofs.Ytffkmlkdlhkkmaa
open Go.RowKit Go.Fw Go.WideShapes Go.ChangeShapes Go.ChangeAt Go.Deep
section
variable {H : Type} {en : TypeId × Value → H} {w : World} {v : Value} {d : DataW H} {ps : List MemPlace} {base : Nat}
set_option maxRecDepth 100000 in
theorem arg_cm (hv : Value.okWide Try.prog w .any base 42 v) (h : DataW.Trod en Try.prog w 0 (fun _ => true) true 42 v d ps) (hw : ∀ n ∈ d.weights Try.prog 42, n ≤ reachBytes) :
    ∃ x : CmV, v = .agg (cmC x).toArray ∧ Sl w opC 37 x.pv x.ops ∧ x.ops.length * 72 ≤ 140737488355328 := by
  obtain ⟨x, hx, hs, hb⟩ := rd_cm.arg h hw
  obtain ⟨cs, rfl, _⟩ := okWide_struct Try.underlying42 hv
  have hr := reach_is
  refine ⟨x, ?_, hs, by omega⟩
  have : cs.toList = cmC x := by simpa [Value.cells] using hx
  rw [← this]
end
end Go.Proofs.Ytffkmlkdlhkkmaa
