/- The api's types as arguments of this program: closed facts. No condition. -/
import Derived.Test.YtkbmlnkoejlgmaaDoorOa
import Derived.Test.YtkbmlnkoejlgmaaDoorTy
import Derived.Test.YtkbmlnkoejlgmaaDoorChecked
set_option linter.unusedSimpArgs false
set_option linter.unusedVariables false
namespace Go.Proofs.YtkbmlnkoejlgmaaDoor
open Go.RowKit Go.Fw Go.WideShapes Go.ChangeShapes
theorem own0 : ownKnob Tryd.prog.godebug = none := by kernel_rfl
theorem laidOut0 : laidOutB Tryd.prog = true := by kernel_rfl
theorem rd_dig : RdW Tryd.prog 28 (fun _ cs => ∃ d, cs = digC d) := RdW.dig Tryd.underlying28 Tryd.underlying5 (by kernel_rfl) (by kernel_rfl)
section
variable {H : Type} {en : TypeId × Value → H} {w : World} {v : Value} {d : DataW H} {ps : List MemPlace} {base : Nat}
set_option maxRecDepth 100000 in
theorem arg_string (hv : Value.okWide Tryd.prog w .any base 9 v) (h : DataW.Trod en Tryd.prog w 0 (fun _ => true) true 9 v d ps) (hw : ∀ n ∈ d.weights Tryd.prog 9, n ≤ reachBytes) : ∃ s, v = .string s ∧ s.size ≤ reachBytes := by
  obtain ⟨s, hs, hb⟩ := (RdW.string Tryd.underlying9).arg h hw
  obtain ⟨s', rfl⟩ := okWide_string Tryd.underlying9 hv
  simp [Value.cells] at hs
  subst hs
  exact ⟨s', rfl, hb⟩
set_option maxRecDepth 100000 in
theorem arg_int (hv : Value.okWide Tryd.prog w .any base 3 v) (h : DataW.Trod en Tryd.prog w 0 (fun _ => true) true 3 v d ps) (hw : ∀ n ∈ d.weights Tryd.prog 3, n ≤ reachBytes) : ∃ i, v = .int .i64 i ∧ InI64 i := by
  obtain ⟨s, hs, hb⟩ := (RdW.int Tryd.underlying3).arg h hw
  obtain ⟨s', rfl⟩ := okWide_int Tryd.underlying3 hv
  simp [Value.cells] at hs
  subst hs
  exact ⟨s', rfl, hb⟩
end
end Go.Proofs.YtkbmlnkoejlgmaaDoor
