/- Lists of commits, pairs of digests, refs, digests as arguments of this program. No condition. -/
import Derived.Test.YtmndofgagngcgaaGB
import Derived.Test.YtmndofgagngcgaaFe
set_option linter.unusedSimpArgs false
set_option linter.unusedVariables false
namespace Go.Fw
open Go.RowKit Go.WideShapes Go.ChangeShapes Go.ChangeAt Go.Deep
theorem okWide_arr {P : Program} {w : World} {base : Nat} {t e : TypeId} {m : Nat} {v : Value} (ht : P.underlying t = some (.array m e)) (h : Value.okWide P w .any base t v) : ∃ cs, v = .agg cs ∧ cs.size = P.cellsOf t := by
  simp only [Value.okWide, ht] at h
  obtain ⟨cs, h1, h2, _⟩ := h
  exact ⟨cs, h1, h2⟩
theorem RdW.arrayK {P : Program} {t e : TypeId} {R : World → List Value → Prop} {m k : Nat} (ht : P.underlying t = some (.array m e)) (hc : P.cellsOf e = k) (hct : P.cellsOf t = m * k) (he : RdW P e R) :
    RdW P t (fun w cs => cs.length = m * k ∧ ∀ i, i < m → R w ((cs.drop (i * k)).take k)) := fun H en w bs sp hd fu cs d ps h hw => by
  obtain ⟨xs, n, _, hx, hl, hxl, hi⟩ := DataW.trod_array ht h
  injection hx with h1 h2
  subst h1
  rw [hct] at hl
  refine ⟨hl, fun i hlt => ?_⟩
  have h3 := hi i (by omega)
  rw [hc, List.getElem?_eq_getElem (by omega)] at h3
  refine he H en w bs sp hd n _ _ _ h3 fun k hk => hw k ?_
  rw [DataW.weights, ht]
  exact mem_weightsAll (List.mem_map.2 ⟨xs[i]'(by omega), List.getElem_mem _, rfl⟩) hk
theorem reach_is : reachBytes = 140737488351232 := by decide
end Go.Fw
namespace Go.Proofs.Ytmndofgagngcgaa
open Go.RowKit Go.Fw Go.WideShapes Go.ChangeShapes Go.ChangeAt Go.Deep
theorem rd_cm : RdW Try.prog 70 (fun w cs => ∃ x : CmV, cs = cmC x ∧ Sl w opC 37 x.pv x.ops ∧ x.ops.length * 72 ≤ reachBytes) :=
  (RdW.struct Try.underlying70 (fun i w cs => match i with | 0 => ∃ d, cs = digC d | _ => ∃ v xs, cs = [v] ∧ Sl w opC 37 v xs ∧ xs.length * 72 ≤ reachBytes) (fun i f hf => by
    match i, hf with
    | 0, hf => simp at hf; subst hf; exact rd_dig
    | 1, hf => simp at hf; subst hf; exact rd_ops.mono fun w cs ⟨v, xs, h1, h2, h3, _⟩ => ⟨v, xs, h1, h2, by rw [bytes_op] at h3; exact h3⟩
    | i + 2, hf => simp at hf)).mono fun w cs ⟨hl, hg⟩ => by
      obtain ⟨d, hd⟩ := hg 0 _ rfl
      obtain ⟨v, xs, hv, hs, hb⟩ := hg 1 _ rfl
      have hl2 : cs.length = 33 := by rw [hl]; kernel_rfl
      have c0 : Try.prog.cellsOf 50 = 32 := by kernel_rfl
      have c1 : Try.prog.cellsOf 27 = 1 := by kernel_rfl
      change (cs.drop 0).take (Try.prog.cellsOf 50) = digC d at hd
      change (cs.drop 32).take (Try.prog.cellsOf 27) = [v] at hv
      rw [c0, List.drop_zero] at hd
      rw [c1] at hv
      obtain ⟨A, c, rfl, _⟩ := hs.lens
      refine ⟨⟨d, xs, A, c⟩, ?_, hs, hb⟩
      have e1 : cs = cs.take (32 + 1) := by rw [List.take_of_length_le (by omega)]
      rw [e1, list_split, hd, hv]
      rfl
theorem bytes_cm : Try.prog.bytesOf 70 = 56 := by kernel_rfl
theorem rd_cms : RdW Try.prog 22 (fun w cs => ∃ v xs, cs = [v] ∧ Sl w cmC 33 v xs ∧ xs.length * Try.prog.bytesOf 70 ≤ reachBytes ∧ ∀ (i : Nat) x, xs[i]? = some x → Sl w opC 37 x.pv x.ops ∧ x.ops.length * 72 ≤ reachBytes) :=
  RdW.slice (Q := fun w x => Sl w opC 37 x.pv x.ops ∧ x.ops.length * 72 ≤ reachBytes) Try.underlying22 (by kernel_rfl) cmC_length rd_cm
section
variable {H : Type} {en : TypeId × Value → H} {w : World} {v : Value} {d : DataW H} {ps : List MemPlace} {base : Nat}
set_option maxRecDepth 100000 in
theorem arg_cms (hv : Value.okWide Try.prog w .any base 22 v) (h : DataW.Trod en Try.prog w 0 (fun _ => true) true 22 v d ps) (hw : ∀ n ∈ d.weights Try.prog 22, n ≤ reachBytes) :
    ∃ xs, Cms w v xs := by
  obtain ⟨u, xs, hs, hb, hl, hq⟩ := rd_cms.arg h hw
  obtain ⟨a, m, c, rfl⟩ := okWide_slice Try.underlying22 hv
  simp [Value.cells] at hs
  subst hs
  rw [bytes_cm] at hl
  have hr := reach_is
  have hget : ∀ x ∈ xs, Sl w opC 37 x.pv x.ops ∧ x.ops.length * 72 ≤ reachBytes := fun x hx => by
    obtain ⟨i, hi⟩ := List.mem_iff_getElem?.1 hx
    exact hq i x hi
  exact ⟨xs, hb, fun x hx => (hget x hx).1, fun x hx => by have := (hget x hx).2; omega, by omega⟩
end
end Go.Proofs.Ytmndofgagngcgaa
