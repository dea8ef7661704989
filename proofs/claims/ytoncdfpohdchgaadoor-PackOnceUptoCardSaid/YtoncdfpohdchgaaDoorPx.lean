/- A list of texts, a byte, as arguments of this program. No condition. -/
import Derived.Test.YtoncdfpohdchgaaDoorX2
import Derived.Test.YtoncdfpohdchgaaDoorOc
set_option linter.unusedSimpArgs false
set_option linter.unusedVariables false
namespace Go.Proofs.YtoncdfpohdchgaaDoor
open Go.RowKit Go.Fw Go.WideShapes Go.ChangeShapes
theorem rd_ss : RdW Tryd.prog 22 (fun w cs => ∃ v xs, cs = [v] ∧ Sl w strC 1 v xs ∧ xs.length * Tryd.prog.bytesOf 9 ≤ reachBytes ∧ ∀ (i : Nat) x, xs[i]? = some x → x.length ≤ reachBytes) :=
  RdW.slice (enc := strC) (Q := fun _ x => x.length ≤ reachBytes) Tryd.underlying22 (by kernel_rfl) strC_length
    ((RdW.string Tryd.underlying9).mono fun w cs ⟨s, h1, h2⟩ => ⟨s.toList, by rw [h1, strC, bs_of], by rw [toList_length]; exact h2⟩)
theorem rd_dgs : RdW Tryd.prog 29 (fun w cs => ∃ v xs, cs = [v] ∧ Sl w digC 32 v xs ∧ xs.length * Tryd.prog.bytesOf 31 ≤ reachBytes ∧ ∀ (i : Nat) (x : Dig), xs[i]? = some x → True) :=
  RdW.slice (enc := digC) (Q := fun _ _ => True) Tryd.underlying29 (by kernel_rfl) digC_length (rd_dig.mono fun w cs ⟨x, h1⟩ => ⟨x, h1, trivial⟩)
theorem okWide_arrP {P : Program} {w : World} {base : Nat} {t e : TypeId} {m : Nat} {v : Value} (ht : P.underlying t = some (.array m e)) (h : Value.okWide P w .any base t v) : ∃ cs, v = .agg cs ∧ cs.size = P.cellsOf t := by
  simp only [Value.okWide, ht] at h
  obtain ⟨cs, h1, h2, _⟩ := h
  exact ⟨cs, h1, h2⟩
theorem bytes_str : Tryd.prog.bytesOf 9 = 16 := by kernel_rfl
section
variable {H : Type} {en : TypeId × Value → H} {w : World} {v : Value} {d : DataW H} {ps : List MemPlace} {base : Nat}
set_option maxRecDepth 100000 in
theorem arg_ss (hv : Value.okWide Tryd.prog w .any base 22 v) (h : DataW.Trod en Tryd.prog w 0 (fun _ => true) true 22 v d ps) (hw : ∀ n ∈ d.weights Tryd.prog 22, n ≤ reachBytes) :
    ∃ xs, Sl w strC 1 v xs ∧ xs.length * 16 ≤ reachBytes ∧ ∀ x ∈ xs, x.length ≤ reachBytes := by
  obtain ⟨u, xs, hs, hb, hl, hq⟩ := rd_ss.arg h hw
  obtain ⟨a, m, c, rfl⟩ := okWide_slice Tryd.underlying22 hv
  simp [Value.cells] at hs
  subst hs
  rw [bytes_str] at hl
  exact ⟨xs, hb, hl, fun x hx => by obtain ⟨i, hi⟩ := List.getElem?_of_mem hx; exact hq i x hi⟩
set_option maxRecDepth 100000 in
theorem arg_byte (hv : Value.okWide Tryd.prog w .any base 5 v) (h : DataW.Trod en Tryd.prog w 0 (fun _ => true) true 5 v d ps) (hw : ∀ n ∈ d.weights Tryd.prog 5, n ≤ reachBytes) : ∃ b, v = bc b := by
  obtain ⟨s, hs⟩ := (RdW.u8 Tryd.underlying5).arg h hw
  obtain ⟨s', rfl⟩ := okWide_int Tryd.underlying5 hv
  simp [Value.cells] at hs
  exact ⟨s, hs⟩
set_option maxRecDepth 100000 in
theorem arg_dgs (hv : Value.okWide Tryd.prog w .any base 29 v) (h : DataW.Trod en Tryd.prog w 0 (fun _ => true) true 29 v d ps) (hw : ∀ n ∈ d.weights Tryd.prog 29, n ≤ reachBytes) :
    ∃ xs, Sl w digC 32 v xs := by
  obtain ⟨u, xs, hs, hb, hl, hq⟩ := rd_dgs.arg h hw
  obtain ⟨a, m, c, rfl⟩ := okWide_slice Tryd.underlying29 hv
  simp [Value.cells] at hs
  subst hs
  exact ⟨xs, hb⟩
set_option maxRecDepth 100000 in
theorem arg_dig (hv : Value.okWide Tryd.prog w .any base 31 v) (h : DataW.Trod en Tryd.prog w 0 (fun _ => true) true 31 v d ps) (hw : ∀ n ∈ d.weights Tryd.prog 31, n ≤ reachBytes) : ∃ x : Dig, v = digV x := by
  obtain ⟨x, hx⟩ := rd_dig.arg h hw
  obtain ⟨cs, rfl, _⟩ := okWide_arrP Tryd.underlying31 hv
  refine ⟨x, ?_⟩
  have : cs.toList = digC x := by simpa [Value.cells] using hx
  show Value.agg cs = .agg (digC x).toArray
  congr 1
  exact Array.ext' this
end
end Go.Proofs.YtoncdfpohdchgaaDoor
