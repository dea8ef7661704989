/- A digest, a run as arguments of this program; how long a run of such bulk is. No condition. -/
import Derived.Test.YtffkmlkdlhkkmaaOg
import Derived.Test.YtffkmlkdlhkkmaaCu
import Derived.Test.YtffkmlkdlhkkmaaFg
set_option linter.unusedSimpArgs false
set_option linter.unusedVariables false
namespace Go.Proofs.Ytffkmlkdlhkkmaa
open Go.RowKit Go.Fw Go.WideShapes Go.ChangeShapes Go.ChangeAt Go.Deep
section
variable {H : Type} {en : TypeId × Value → H} {w : World} {v : Value} {d : DataW H} {ps : List MemPlace} {base : Nat}
set_option maxRecDepth 100000 in
theorem arg_idg (hv : Value.okWide Try.prog w .any base 24 v) (h : DataW.Trod en Try.prog w 0 (fun _ => true) true 24 v d ps) (hw : ∀ n ∈ d.weights Try.prog 24, n ≤ reachBytes) : ∃ i, v = digV i := by
  obtain ⟨i, hi⟩ := rd_dig.arg h hw
  obtain ⟨cs, rfl, _⟩ := okWide_arr Try.underlying24 hv
  refine ⟨i, ?_⟩
  have : cs.toList = digC i := by simpa [Value.cells] using hi
  show Value.agg cs = .agg (digC i).toArray
  rw [← this]
theorem bulk_run {cs : List Value} {fuel : Nat} (hl : cs.length = 2) (hf : DataW.trod en Try.prog w 0 (fun _ => true) true fuel 26 cs = some (d, ps)) : ∃ n s, cs = runC n s ∧ s.length ≤ Rows.uptoBulk d := by
  obtain ⟨ys, k, _, hx, hl2, hyl, hi⟩ := DataW.trod_struct Try.underlying26 hf
  injection hx with h1 h2
  subst h1
  have c0 : Try.prog.cellsOf 3 = 1 := by kernel_rfl
  have c1 : Try.prog.cellsOf 9 = 1 := by kernel_rfl
  have hyl' : ys.length = 2 := hyl
  have h0 := hi 0 _ rfl
  have h1 := hi 1 _ rfl
  change DataW.trod _ _ _ _ _ _ _ _ ((cs.drop 0).take (Try.prog.cellsOf 3)) = _ at h0
  change DataW.trod _ _ _ _ _ _ _ _ ((cs.drop 1).take (Try.prog.cellsOf 9)) = _ at h1
  rw [c0, List.getElem?_eq_getElem (by omega)] at h0
  rw [c1, List.getElem?_eq_getElem (by omega)] at h1
  obtain ⟨n, e0, _⟩ := DataW.trod_int Try.underlying3 h0
  obtain ⟨s, e1, hx1, _⟩ := DataW.trod_string Try.underlying9 h1
  have hb := bulk_part (d := (ys[1]'(by omega)).1) (l := ys.map (·.1)) (List.mem_map.2 ⟨_, List.getElem_mem _, rfl⟩)
  refine ⟨n, s.toList, ?_, ?_⟩
  · have e : cs = cs.take (1 + 1) := by rw [List.take_of_length_le (by omega)]
    rw [List.drop_zero] at e0
    rw [e, list_split, e0, e1, runC, bs_of]; rfl
  · have h3 : (ys[1]'(by omega)).1 = .lit (.string s.data.toList) := by rw [hx1]
    rw [h3] at hb
    have h4 : s.toList.length = s.data.toList.length := by rw [ByteArray.toList_eq]
    simp only [Rows.uptoBulk] at hb ⊢
    omega
set_option maxRecDepth 100000 in
theorem arg_run (hv : Value.okWide Try.prog w .any base 26 v) (h : DataW.Trod en Try.prog w 0 (fun _ => true) true 26 v d ps) (hw : ∀ n ∈ d.weights Try.prog 26, n ≤ reachBytes) : ∃ n s, v = .agg (runC n s).toArray ∧ s.length ≤ Rows.uptoBulk d := by
  obtain ⟨cs, rfl, hsz⟩ := okWide_struct Try.underlying26 hv
  obtain ⟨fuel, hf⟩ := h
  have c2 : Try.prog.cellsOf 26 = 2 := by kernel_rfl
  rw [c2] at hsz
  have e : (Value.agg cs).cells.toList = cs.toList := by simp [Value.cells]
  rw [e] at hf
  obtain ⟨n, s, h1, h2⟩ := bulk_run (by simpa using hsz) hf
  refine ⟨n, s, ?_, h2⟩
  rw [← h1]
end
end Go.Proofs.Ytffkmlkdlhkkmaa
