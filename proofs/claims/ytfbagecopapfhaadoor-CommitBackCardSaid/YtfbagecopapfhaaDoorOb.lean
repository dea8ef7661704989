/- The api's types as arguments of this program: closed facts. No condition. -/
import Derived.Test.YtfbagecopapfhaaDoorOa
import Derived.Test.YtfbagecopapfhaaDoorTy
import Derived.Test.YtfbagecopapfhaaDoorChecked
set_option linter.unusedSimpArgs false
set_option linter.unusedVariables false
namespace Go.Proofs.YtfbagecopapfhaaDoor
open Go.RowKit Go.Fw Go.WideShapes Go.ChangeShapes
theorem own0 : ownKnob Tryd.prog.godebug = none := by kernel_rfl
theorem laidOut0 : laidOutB Tryd.prog = true := by kernel_rfl
theorem rd_dig : RdW Tryd.prog 34 (fun _ cs => ∃ d, cs = digC d) := RdW.dig Tryd.underlying34 Tryd.underlying5 (by kernel_rfl) (by kernel_rfl)
theorem rd_ref : RdW Tryd.prog 49 (fun _ cs => ∃ r, cs = refC r ∧ InI64 r.n) :=
  RdW.ref Tryd.underlying49 (by kernel_rfl) (RdW.bool Tryd.underlying4) rd_dig (RdW.int Tryd.underlying3) rfl rfl rfl (by kernel_rfl) (by kernel_rfl) (by kernel_rfl)
theorem rd_op : RdW Tryd.prog 51 (fun _ cs => ∃ x, cs = opC x ∧ InI64 x.kind ∧ InI64 x.at_.n) :=
  RdW.op Tryd.underlying51 (by kernel_rfl) (RdW.int Tryd.underlying3) (RdW.bool Tryd.underlying4) rd_ref (RdW.u8 Tryd.underlying5) rfl rfl rfl rfl (by kernel_rfl) (by kernel_rfl) (by kernel_rfl) (by kernel_rfl)
theorem rd_ops : RdW Tryd.prog 23 (fun w cs => ∃ v xs, cs = [v] ∧ Sl w opC 37 v xs ∧ xs.length * Tryd.prog.bytesOf 51 ≤ reachBytes ∧ ∀ (i : Nat) x, xs[i]? = some x → InI64 x.kind ∧ InI64 x.at_.n) :=
  RdW.slice (Q := fun _ x => InI64 x.kind ∧ InI64 x.at_.n) Tryd.underlying23 (by kernel_rfl) opC_length rd_op
theorem bytes_op : Tryd.prog.bytesOf 51 = 72 := by kernel_rfl
theorem rd_com : RdW Tryd.prog 25 (fun w cs => ∃ c, ComIn w (.agg cs.toArray) c) :=
  RdW.com Tryd.underlying25 (by kernel_rfl) Tryd.underlying22 (by kernel_rfl) (by kernel_rfl) rd_dig Tryd.underlying9 Tryd.underlying9 Tryd.underlying23 (by kernel_rfl) bytes_op rd_op
    rfl rfl rfl rfl (by kernel_rfl) (by kernel_rfl) (by kernel_rfl) (by kernel_rfl)
section
variable {H : Type} {en : TypeId × Value → H} {w : World} {v : Value} {d : DataW H} {ps : List MemPlace} {base : Nat}
set_option maxRecDepth 100000 in
theorem arg_string (hv : Value.okWide Tryd.prog w .any base 9 v) (h : DataW.Trod en Tryd.prog w 0 (fun _ => true) true 9 v d ps) (hw : ∀ n ∈ d.weights Tryd.prog 9, n ≤ reachBytes) : ∃ s, v = .string s ∧ s.size ≤ reachBytes := by
  obtain ⟨s, hs, hb⟩ := (RdW.string Tryd.underlying9).arg h hw
  obtain ⟨s', rfl⟩ := okWide_string Tryd.underlying9 hv
  simp [Value.cells] at hs
  subst hs
  exact ⟨s', rfl, hb⟩
set_option maxRecDepth 100000 in
theorem arg_int (hv : Value.okWide Tryd.prog w .any base 3 v) (h : DataW.Trod en Tryd.prog w 0 (fun _ => true) true 3 v d ps) (hw : ∀ n ∈ d.weights Tryd.prog 3, n ≤ reachBytes) : ∃ i, v = .int .i64 i ∧ InI64 i := by
  obtain ⟨s, hs, hb⟩ := (RdW.int Tryd.underlying3).arg h hw
  obtain ⟨s', rfl⟩ := okWide_int Tryd.underlying3 hv
  simp [Value.cells] at hs
  subst hs
  exact ⟨s', rfl, hb⟩
set_option maxRecDepth 100000 in
theorem arg_ops (hv : Value.okWide Tryd.prog w .any base 23 v) (h : DataW.Trod en Tryd.prog w 0 (fun _ => true) true 23 v d ps) (hw : ∀ n ∈ d.weights Tryd.prog 23, n ≤ reachBytes) :
    ∃ xs, Sl w opC 37 v xs ∧ xs.length * 72 ≤ reachBytes ∧ ∀ (i : Nat) x, xs[i]? = some x → InI64 x.kind ∧ InI64 x.at_.n := by
  obtain ⟨u, xs, hs, hb, hl, hq⟩ := rd_ops.arg h hw
  obtain ⟨a, m, c, rfl⟩ := okWide_slice Tryd.underlying23 hv
  simp [Value.cells] at hs
  subst hs
  rw [bytes_op] at hl
  exact ⟨xs, hb, hl, hq⟩
set_option maxRecDepth 100000 in
theorem arg_com (hv : Value.okWide Tryd.prog w .any base 25 v) (h : DataW.Trod en Tryd.prog w 0 (fun _ => true) true 25 v d ps) (hw : ∀ n ∈ d.weights Tryd.prog 25, n ≤ reachBytes) : ∃ c, ComIn w v c := by
  obtain ⟨c, hc⟩ := rd_com.arg h hw
  obtain ⟨cs, rfl, _⟩ := okWide_struct Tryd.underlying25 hv
  exact ⟨c, by simpa [Value.cells] using hc⟩
end
end Go.Proofs.YtfbagecopapfhaaDoor
