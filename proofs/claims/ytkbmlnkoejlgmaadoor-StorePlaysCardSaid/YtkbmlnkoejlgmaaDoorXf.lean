/- A slice of slices of bytes as an argument of this program. No condition. -/
import Derived.Test.YtkbmlnkoejlgmaaDoorXd
import Derived.Test.YtkbmlnkoejlgmaaDoorOc
set_option linter.unusedSimpArgs false
set_option linter.unusedVariables false
namespace Go.Proofs.YtkbmlnkoejlgmaaDoor
open Go.RowKit Go.Fw Go.WideShapes Go.ChangeShapes
theorem rd_bss : RdW Tryd.prog 22 (fun w cs => ∃ v xs, cs = [v] ∧ Sl w (fun x : Value × List UInt8 => [x.1]) 1 v xs ∧ xs.length * Tryd.prog.bytesOf 26 ≤ reachBytes ∧ ∀ (i : Nat) x, xs[i]? = some x → By w x.1 x.2 ∧ x.2.length ≤ reachBytes) :=
  RdW.slice (enc := fun x : Value × List UInt8 => [x.1]) (Q := fun w x => By w x.1 x.2 ∧ x.2.length ≤ reachBytes) Tryd.underlying22 (by kernel_rfl) (fun _ => rfl)
    (rd_bytes.mono fun w cs ⟨v, xs, h1, h2, h3, _⟩ => ⟨(v, xs), h1, h2.by, by rw [bytes_u8] at h3; show xs.length ≤ _; omega⟩)
theorem bytes_su8 : Tryd.prog.bytesOf 26 = 24 := by kernel_rfl
set_option maxRecDepth 100000 in
theorem arg_bss {H : Type} {en : TypeId × Value → H} {w : World} {v : Value} {d : DataW H} {ps : List MemPlace} {base : Nat} (hv : Value.okWide Tryd.prog w .any base 22 v) (h : DataW.Trod en Tryd.prog w 0 (fun _ => true) true 22 v d ps) (hw : ∀ n ∈ d.weights Tryd.prog 22, n ≤ reachBytes) :
    ∃ xs, Bss w v xs ∧ xs.length * 24 ≤ reachBytes := by
  obtain ⟨u, xs, hs, hb, hl, hq⟩ := rd_bss.arg h hw
  obtain ⟨a, m, c, rfl⟩ := okWide_slice Tryd.underlying22 hv
  simp [Value.cells] at hs
  subst hs
  rw [bytes_su8] at hl
  exact ⟨xs, ⟨hb, fun i x hx => ⟨(hq i x hx).1, by have := (hq i x hx).2; rw [reach_is] at this; exact this⟩⟩, hl⟩
end Go.Proofs.YtkbmlnkoejlgmaaDoor
