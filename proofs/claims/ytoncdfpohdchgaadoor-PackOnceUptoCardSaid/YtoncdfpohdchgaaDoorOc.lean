/- A slice of bytes as an argument of this program. No condition. -/
-- @alt f{recension/commit.May}: Ko -> Kg
import Derived.Test.YtoncdfpohdchgaaDoorOb
import Derived.Test.YtoncdfpohdchgaaDoorKo
set_option linter.unusedSimpArgs false
set_option linter.unusedVariables false
namespace Go.Fw
open Go.RowKit
theorem flat_bytes : ∀ xs : List UInt8, (xs.map fun b => [bc b]).flatten = bytesC xs
  | [] => rfl
  | x :: xs => by simp only [List.map_cons, List.flatten_cons, flat_bytes xs]; rfl
theorem Sl.by {w : World} {v : Value} {xs : List UInt8} (h : Sl w (fun b => [bc b]) 1 v xs) : By w v xs := by
  obtain ⟨A, c, rfl, hmc, hcm⟩ := h.lens
  obtain ⟨hl, _, _, hA⟩ := Sl.flat (k := 1) (fun _ => rfl) h
  rw [flat_bytes] at hA
  refine ⟨A, xs.length, c, rfl, rfl, hmc, hcm, hA, ?_⟩
  rintro rfl
  rcases Nat.eq_zero_or_pos xs.length with h0 | h0
  · exact h0
  · obtain ⟨a, h, _⟩ := hA h0; cases h
end Go.Fw
namespace Go.Proofs.YtoncdfpohdchgaaDoor
open Go.RowKit Go.Fw Go.WideShapes Go.ChangeShapes
theorem rd_bytes : RdW Tryd.prog 33 (fun w cs => ∃ v xs, cs = [v] ∧ Sl w (fun b => [bc b]) 1 v xs ∧ xs.length * Tryd.prog.bytesOf 5 ≤ reachBytes ∧ ∀ (i : Nat) x, xs[i]? = some x → True) :=
  RdW.slice (Q := fun _ _ => True) Tryd.underlying33 (by kernel_rfl) (fun _ => rfl) ((RdW.u8 Tryd.underlying5).mono fun w cs ⟨b, h⟩ => ⟨b, h, trivial⟩)
theorem bytes_u8 : Tryd.prog.bytesOf 5 = 1 := by kernel_rfl
set_option maxRecDepth 100000 in
theorem arg_bytes {H : Type} {en : TypeId × Value → H} {w : World} {v : Value} {d : DataW H} {ps : List MemPlace} {base : Nat} (hv : Value.okWide Tryd.prog w .any base 33 v) (h : DataW.Trod en Tryd.prog w 0 (fun _ => true) true 33 v d ps) (hw : ∀ n ∈ d.weights Tryd.prog 33, n ≤ reachBytes) :
    ∃ xs, By w v xs ∧ xs.length ≤ reachBytes := by
  obtain ⟨u, xs, hs, hb, hl, _⟩ := rd_bytes.arg h hw
  obtain ⟨a, m, c, rfl⟩ := okWide_slice Tryd.underlying33 hv
  simp [Value.cells] at hs
  subst hs
  rw [bytes_u8] at hl
  exact ⟨xs, hb.by, by omega⟩
theorem reach_is : reachBytes = 140737488351232 := by decide
end Go.Proofs.YtoncdfpohdchgaaDoor
