/- Lists of acts as arguments of this program. No condition. -/
import Derived.Test.YtffkmlkdlhkkmaaOg
import Derived.Test.YtffkmlkdlhkkmaaEm
set_option linter.unusedSimpArgs false
set_option linter.unusedVariables false
namespace Go.Proofs.Ytffkmlkdlhkkmaa
open Go.RowKit Go.Fw Go.WideShapes Go.ChangeShapes Go.ChangeAt Go.Deep
theorem rd_act : RdW Try.prog 75 (fun w cs => ∃ x : ActV, cs = actC x ∧ Sl w opC 37 x.com.pv x.com.ops ∧ x.com.ops.length * 72 ≤ reachBytes) :=
  (RdW.struct Try.underlying75 (fun i w cs => match i with | 0 => ∃ n, cs = [.int .i64 n] ∧ InI64 n | 1 => ∃ b, cs = [.bool b] | 2 => ∃ x : CmV, cs = cmC x ∧ Sl w opC 37 x.pv x.ops ∧ x.ops.length * 72 ≤ reachBytes | 3 => ∃ n, cs = [.int .i64 n] ∧ InI64 n | _ => ∃ r, cs = refC r ∧ InI64 r.n) (fun i f hf => by
    match i, hf with
    | 0, hf => simp at hf; subst hf; exact RdW.int Try.underlying3
    | 1, hf => simp at hf; subst hf; exact RdW.bool Try.underlying4
    | 2, hf => simp at hf; subst hf; exact rd_cm
    | 3, hf => simp at hf; subst hf; exact RdW.int Try.underlying3
    | 4, hf => simp at hf; subst hf; exact rd_ref
    | i + 5, hf => simp at hf)).mono fun w cs ⟨hl, hg⟩ => by
      obtain ⟨k, h0, _⟩ := hg 0 _ rfl
      obtain ⟨b, h1⟩ := hg 1 _ rfl
      obtain ⟨x, h2, hs, hb⟩ := hg 2 _ rfl
      obtain ⟨n, h3, _⟩ := hg 3 _ rfl
      obtain ⟨r, h4, _⟩ := hg 4 _ rfl
      have hl2 : cs.length = 70 := by rw [hl]; kernel_rfl
      have c0 : Try.prog.cellsOf 3 = 1 := by kernel_rfl
      have c1 : Try.prog.cellsOf 4 = 1 := by kernel_rfl
      have c2 : Try.prog.cellsOf 42 = 33 := by kernel_rfl
      have c4 : Try.prog.cellsOf 49 = 34 := by kernel_rfl
      change (cs.drop 0).take (Try.prog.cellsOf 3) = _ at h0
      change (cs.drop 1).take (Try.prog.cellsOf 4) = _ at h1
      change (cs.drop 2).take (Try.prog.cellsOf 42) = _ at h2
      change (cs.drop 35).take (Try.prog.cellsOf 3) = _ at h3
      change (cs.drop 36).take (Try.prog.cellsOf 49) = _ at h4
      rw [c0, List.drop_zero] at h0
      rw [c1] at h1
      rw [c2] at h2
      rw [c0] at h3
      rw [c4] at h4
      refine ⟨⟨k, b, x, n, r⟩, ?_, hs, hb⟩
      have t1 : cs.take 2 = cs.take 1 ++ (cs.drop 1).take 1 := list_split (a := 1) (b := 1)
      have t2 : cs.take 35 = cs.take 2 ++ (cs.drop 2).take 33 := list_split (a := 2) (b := 33)
      have t3 : cs.take 36 = cs.take 35 ++ (cs.drop 35).take 1 := list_split (a := 35) (b := 1)
      have t4 : cs.take 70 = cs.take 36 ++ (cs.drop 36).take 34 := list_split (a := 36) (b := 34)
      have e : cs.take 70 = cs := List.take_of_length_le (by omega)
      rw [← e, t4, t3, t2, t1, h0, h1, h2, h3, h4]
      rfl
theorem bytes_act : 112 ≤ Try.prog.bytesOf 75 := Nat.le_of_ble_eq_true (by kernel_rfl)
theorem rd_acts : RdW Try.prog 79 (fun w cs => ∃ v xs, cs = [v] ∧ Sl w actC 70 v xs ∧ xs.length * Try.prog.bytesOf 75 ≤ reachBytes ∧ ∀ (i : Nat) x, xs[i]? = some x → Sl w opC 37 x.com.pv x.com.ops ∧ x.com.ops.length * 72 ≤ reachBytes) :=
  RdW.slice (Q := fun w x => Sl w opC 37 x.com.pv x.com.ops ∧ x.com.ops.length * 72 ≤ reachBytes) Try.underlying79 (by kernel_rfl) actC_length rd_act
section
variable {H : Type} {en : TypeId × Value → H} {w : World} {v : Value} {d : DataW H} {ps : List MemPlace} {base : Nat}
set_option maxRecDepth 100000 in
theorem arg_acts (hv : Value.okWide Try.prog w .any base 79 v) (h : DataW.Trod en Try.prog w 0 (fun _ => true) true 79 v d ps) (hw : ∀ n ∈ d.weights Try.prog 79, n ≤ reachBytes) :
    ∃ xs, Acts8 w v xs := by
  obtain ⟨u, xs, hs, hb, hl, hq⟩ := rd_acts.arg h hw
  obtain ⟨a, m, c, rfl⟩ := okWide_slice Try.underlying79 hv
  simp [Value.cells] at hs
  subst hs
  have hr := reach_is
  have h112 := Nat.le_trans (Nat.mul_le_mul_left xs.length bytes_act) hl
  have hget : ∀ x ∈ xs, Sl w opC 37 x.com.pv x.com.ops ∧ x.com.ops.length * 72 ≤ reachBytes := fun x hx => by
    obtain ⟨i, hi⟩ := List.mem_iff_getElem?.1 hx
    exact hq i x hi
  exact ⟨xs, hb, fun x hx => (hget x hx).1, fun x hx => by have := (hget x hx).2; omega, by omega⟩
end
end Go.Proofs.Ytffkmlkdlhkkmaa
