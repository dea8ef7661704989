/- Two runs as an argument of this program; how long such of a bulk are. No condition. -/
import Derived.Test.YtffkmlkdlhkkmaaOh
import Derived.Test.YtffkmlkdlhkkmaaEo
set_option linter.unusedSimpArgs false
set_option linter.unusedVariables false
namespace Go.Proofs.Ytffkmlkdlhkkmaa
open Go.RowKit Go.Fw Go.WideShapes Go.ChangeShapes Go.ChangeAt Go.Deep
section
variable {H : Type} {en : TypeId × Value → H} {w : World} {v : Value} {d : DataW H} {ps : List MemPlace} {base : Nat}
set_option maxRecDepth 100000 in
theorem arg_runs2 (hv : Value.okWide Try.prog w .any base 76 v) (h : DataW.Trod en Try.prog w 0 (fun _ => true) true 76 v d ps) (hw : ∀ n ∈ d.weights Try.prog 76, n ≤ reachBytes) :
    ∃ n0 n1 s0 s1, v = .agg (runC n0 s0 ++ runC n1 s1).toArray ∧ s0.length ≤ Rows.uptoBulk d ∧ s1.length ≤ Rows.uptoBulk d := by
  obtain ⟨cs, rfl, hsz⟩ := okWide_arr Try.underlying76 hv
  obtain ⟨fuel, hf⟩ := h
  have c2 : Try.prog.cellsOf 76 = 4 := by kernel_rfl
  have c1 : Try.prog.cellsOf 26 = 2 := by kernel_rfl
  rw [c2] at hsz
  have e : (Value.agg cs).cells.toList = cs.toList := by simp [Value.cells]
  rw [e] at hf
  have hl4 : cs.toList.length = 4 := by simpa using hsz
  obtain ⟨xs, k, _, hx, hl, hxl, hi⟩ := DataW.trod_array Try.underlying76 hf
  injection hx with h1 h2
  subst h1
  have h0 := hi 0 (by decide)
  have h1 := hi 1 (by decide)
  rw [c1, List.getElem?_eq_getElem (by omega)] at h0
  rw [c1, List.getElem?_eq_getElem (by omega)] at h1
  obtain ⟨n0, s0, e0, b0⟩ := bulk_run (by simp; omega) h0
  obtain ⟨n1, s1, e1, b1⟩ := bulk_run (by simp; omega) h1
  have p0 := bulk_part (d := (xs[0]'(by omega)).1) (l := xs.map (·.1)) (List.mem_map.2 ⟨_, List.getElem_mem _, rfl⟩)
  have p1 := bulk_part (d := (xs[1]'(by omega)).1) (l := xs.map (·.1)) (List.mem_map.2 ⟨_, List.getElem_mem _, rfl⟩)
  have q0 : s0.length ≤ Rows.uptoBulk (xs[0]'(by omega)).1 := b0
  have q1 : s1.length ≤ Rows.uptoBulk (xs[1]'(by omega)).1 := b1
  refine ⟨n0, n1, s0, s1, ?_, by simp only [Rows.uptoBulk]; omega, by simp only [Rows.uptoBulk]; omega⟩
  have t : cs.toList = cs.toList.take (2 + 2) := by rw [List.take_of_length_le (by omega)]
  rw [Nat.zero_mul, List.drop_zero] at e0
  rw [Nat.one_mul] at e1
  rw [list_split, e0, e1] at t
  rw [← t]
end
end Go.Proofs.Ytffkmlkdlhkkmaa
