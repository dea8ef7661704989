/- The api's types as arguments of this program: closed facts. No condition. -/
import Derived.Test.YtoncdfpohdchgaaDoorOa
import Derived.Test.YtoncdfpohdchgaaDoorTy
import Derived.Test.YtoncdfpohdchgaaDoorChecked
set_option linter.unusedSimpArgs false
set_option linter.unusedVariables false
namespace Go.Proofs.YtoncdfpohdchgaaDoor
open Go.RowKit Go.Fw Go.WideShapes Go.ChangeShapes
theorem own0 : ownKnob Tryd.prog.godebug = none := by kernel_rfl
theorem laidOut0 : laidOutB Tryd.prog = true := by kernel_rfl
theorem rd_dig : RdW Tryd.prog 31 (fun _ cs => ∃ d, cs = digC d) := RdW.dig Tryd.underlying31 Tryd.underlying5 (by kernel_rfl) (by kernel_rfl)
theorem rd_ref : RdW Tryd.prog 130 (fun _ cs => ∃ r, cs = refC r ∧ InI64 r.n) :=
  RdW.ref Tryd.underlying130 (by kernel_rfl) (RdW.bool Tryd.underlying4) rd_dig (RdW.int Tryd.underlying3) rfl rfl rfl (by kernel_rfl) (by kernel_rfl) (by kernel_rfl)
theorem rd_op : RdW Tryd.prog 132 (fun _ cs => ∃ x, cs = opC x ∧ InI64 x.kind ∧ InI64 x.at_.n) :=
  RdW.op Tryd.underlying132 (by kernel_rfl) (RdW.int Tryd.underlying3) (RdW.bool Tryd.underlying4) rd_ref (RdW.u8 Tryd.underlying5) rfl rfl rfl rfl (by kernel_rfl) (by kernel_rfl) (by kernel_rfl) (by kernel_rfl)
theorem rd_ops : RdW Tryd.prog 74 (fun w cs => ∃ v xs, cs = [v] ∧ Sl w opC 37 v xs ∧ xs.length * Tryd.prog.bytesOf 132 ≤ reachBytes ∧ ∀ (i : Nat) x, xs[i]? = some x → InI64 x.kind ∧ InI64 x.at_.n) :=
  RdW.slice (Q := fun _ x => InI64 x.kind ∧ InI64 x.at_.n) Tryd.underlying74 (by kernel_rfl) opC_length rd_op
theorem bytes_op : Tryd.prog.bytesOf 132 = 72 := by kernel_rfl
theorem rd_com : RdW Tryd.prog 76 (fun w cs => ∃ c, ComIn w (.agg cs.toArray) c) :=
  RdW.com Tryd.underlying76 (by kernel_rfl) Tryd.underlying29 (by kernel_rfl) (by kernel_rfl) rd_dig Tryd.underlying9 Tryd.underlying9 Tryd.underlying74 (by kernel_rfl) bytes_op rd_op
    rfl rfl rfl rfl (by kernel_rfl) (by kernel_rfl) (by kernel_rfl) (by kernel_rfl)
section
variable {H : Type} {en : TypeId × Value → H} {w : World} {v : Value} {d : DataW H} {ps : List MemPlace} {base : Nat}
set_option maxRecDepth 100000 in
theorem arg_string (hv : Value.okWide Tryd.prog w .any base 9 v) (h : DataW.Trod en Tryd.prog w 0 (fun _ => true) true 9 v d ps) (hw : ∀ n ∈ d.weights Tryd.prog 9, n ≤ reachBytes) : ∃ s, v = .string s ∧ s.size ≤ reachBytes := by
  obtain ⟨s, hs, hb⟩ := (RdW.string Tryd.underlying9).arg h hw
  obtain ⟨s', rfl⟩ := okWide_string Tryd.underlying9 hv
  simp [Value.cells] at hs
  subst hs
  exact ⟨s', rfl, hb⟩
set_option maxRecDepth 100000 in
theorem arg_int (hv : Value.okWide Tryd.prog w .any base 3 v) (h : DataW.Trod en Tryd.prog w 0 (fun _ => true) true 3 v d ps) (hw : ∀ n ∈ d.weights Tryd.prog 3, n ≤ reachBytes) : ∃ i, v = .int .i64 i ∧ InI64 i := by
  obtain ⟨s, hs, hb⟩ := (RdW.int Tryd.underlying3).arg h hw
  obtain ⟨s', rfl⟩ := okWide_int Tryd.underlying3 hv
  simp [Value.cells] at hs
  subst hs
  exact ⟨s', rfl, hb⟩
set_option maxRecDepth 100000 in
theorem arg_ops (hv : Value.okWide Tryd.prog w .any base 74 v) (h : DataW.Trod en Tryd.prog w 0 (fun _ => true) true 74 v d ps) (hw : ∀ n ∈ d.weights Tryd.prog 74, n ≤ reachBytes) :
    ∃ xs, Sl w opC 37 v xs ∧ xs.length * 72 ≤ reachBytes ∧ ∀ (i : Nat) x, xs[i]? = some x → InI64 x.kind ∧ InI64 x.at_.n := by
  obtain ⟨u, xs, hs, hb, hl, hq⟩ := rd_ops.arg h hw
  obtain ⟨a, m, c, rfl⟩ := okWide_slice Tryd.underlying74 hv
  simp [Value.cells] at hs
  subst hs
  rw [bytes_op] at hl
  exact ⟨xs, hb, hl, hq⟩
set_option maxRecDepth 100000 in
theorem arg_com (hv : Value.okWide Tryd.prog w .any base 76 v) (h : DataW.Trod en Tryd.prog w 0 (fun _ => true) true 76 v d ps) (hw : ∀ n ∈ d.weights Tryd.prog 76, n ≤ reachBytes) : ∃ c, ComIn w v c := by
  obtain ⟨c, hc⟩ := rd_com.arg h hw
  obtain ⟨cs, rfl, _⟩ := okWide_struct Tryd.underlying76 hv
  exact ⟨c, by simpa [Value.cells] using hc⟩
end
end Go.Proofs.YtoncdfpohdchgaaDoor
