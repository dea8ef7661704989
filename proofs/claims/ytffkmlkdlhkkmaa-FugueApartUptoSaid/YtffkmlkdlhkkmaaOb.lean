/- The api's types as arguments of this program: closed facts. No condition. -/
import Derived.Test.YtffkmlkdlhkkmaaOa
import Derived.Test.YtffkmlkdlhkkmaaTy
import Derived.Test.YtffkmlkdlhkkmaaChecked
set_option linter.unusedSimpArgs false
set_option linter.unusedVariables false
namespace Go.Proofs.Ytffkmlkdlhkkmaa
open Go.RowKit Go.Fw Go.WideShapes Go.ChangeShapes
theorem own0 : ownKnob Try.prog.godebug = none := by kernel_rfl
theorem laidOut0 : laidOutB Try.prog = true := by kernel_rfl
theorem rd_dig : RdW Try.prog 24 (fun _ cs => ∃ d, cs = digC d) := RdW.dig Try.underlying24 Try.underlying5 (by kernel_rfl) (by kernel_rfl)
theorem rd_ref : RdW Try.prog 49 (fun _ cs => ∃ r, cs = refC r ∧ InI64 r.n) :=
  RdW.ref Try.underlying49 (by kernel_rfl) (RdW.bool Try.underlying4) rd_dig (RdW.int Try.underlying3) rfl rfl rfl (by kernel_rfl) (by kernel_rfl) (by kernel_rfl)
theorem rd_op : RdW Try.prog 62 (fun _ cs => ∃ x, cs = opC x ∧ InI64 x.kind ∧ InI64 x.at_.n) :=
  RdW.op Try.underlying62 (by kernel_rfl) (RdW.int Try.underlying3) (RdW.bool Try.underlying4) rd_ref (RdW.u8 Try.underlying5) rfl rfl rfl rfl (by kernel_rfl) (by kernel_rfl) (by kernel_rfl) (by kernel_rfl)
theorem rd_ops : RdW Try.prog 35 (fun w cs => ∃ v xs, cs = [v] ∧ Sl w opC 37 v xs ∧ xs.length * Try.prog.bytesOf 62 ≤ reachBytes ∧ ∀ (i : Nat) x, xs[i]? = some x → InI64 x.kind ∧ InI64 x.at_.n) :=
  RdW.slice (Q := fun _ x => InI64 x.kind ∧ InI64 x.at_.n) Try.underlying35 (by kernel_rfl) opC_length rd_op
theorem bytes_op : Try.prog.bytesOf 62 = 72 := by kernel_rfl
section
variable {H : Type} {en : TypeId × Value → H} {w : World} {v : Value} {d : DataW H} {ps : List MemPlace} {base : Nat}
set_option maxRecDepth 100000 in
theorem arg_string (hv : Value.okWide Try.prog w .any base 9 v) (h : DataW.Trod en Try.prog w 0 (fun _ => true) true 9 v d ps) (hw : ∀ n ∈ d.weights Try.prog 9, n ≤ reachBytes) : ∃ s, v = .string s ∧ s.size ≤ reachBytes := by
  obtain ⟨s, hs, hb⟩ := (RdW.string Try.underlying9).arg h hw
  obtain ⟨s', rfl⟩ := okWide_string Try.underlying9 hv
  simp [Value.cells] at hs
  subst hs
  exact ⟨s', rfl, hb⟩
set_option maxRecDepth 100000 in
theorem arg_int (hv : Value.okWide Try.prog w .any base 3 v) (h : DataW.Trod en Try.prog w 0 (fun _ => true) true 3 v d ps) (hw : ∀ n ∈ d.weights Try.prog 3, n ≤ reachBytes) : ∃ i, v = .int .i64 i ∧ InI64 i := by
  obtain ⟨s, hs, hb⟩ := (RdW.int Try.underlying3).arg h hw
  obtain ⟨s', rfl⟩ := okWide_int Try.underlying3 hv
  simp [Value.cells] at hs
  subst hs
  exact ⟨s', rfl, hb⟩
set_option maxRecDepth 100000 in
theorem arg_ops (hv : Value.okWide Try.prog w .any base 35 v) (h : DataW.Trod en Try.prog w 0 (fun _ => true) true 35 v d ps) (hw : ∀ n ∈ d.weights Try.prog 35, n ≤ reachBytes) :
    ∃ xs, Sl w opC 37 v xs ∧ xs.length * 72 ≤ reachBytes ∧ ∀ (i : Nat) x, xs[i]? = some x → InI64 x.kind ∧ InI64 x.at_.n := by
  obtain ⟨u, xs, hs, hb, hl, hq⟩ := rd_ops.arg h hw
  obtain ⟨a, m, c, rfl⟩ := okWide_slice Try.underlying35 hv
  simp [Value.cells] at hs
  subst hs
  rw [bytes_op] at hl
  exact ⟨xs, hb, hl, hq⟩
end
end Go.Proofs.Ytffkmlkdlhkkmaa
