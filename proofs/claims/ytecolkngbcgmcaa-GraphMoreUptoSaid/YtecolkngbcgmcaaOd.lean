/- Lists of digests, of nodes, arrays of lists of digests as arguments of this program. No condition. -/
import Derived.Test.YtecolkngbcgmcaaOc
import Derived.Test.YtecolkngbcgmcaaCu
import Derived.Test.YtecolkngbcgmcaaGa
set_option linter.unusedSimpArgs false
set_option linter.unusedVariables false
namespace Go.Fw
open Go.RowKit Go.WideShapes Go.ChangeShapes Go.ChangeAt Go.Deep
theorem okWide_arr {P : Program} {w : World} {base : Nat} {t e : TypeId} {m : Nat} {v : Value} (ht : P.underlying t = some (.array m e)) (h : Value.okWide P w .any base t v) : ∃ cs, v = .agg cs ∧ cs.size = P.cellsOf t := by
  simp only [Value.okWide, ht] at h
  obtain ⟨cs, h1, h2, _⟩ := h
  exact ⟨cs, h1, h2⟩
end Go.Fw
namespace Go.Proofs.Ytecolkngbcgmcaa
open Go.RowKit Go.Fw Go.WideShapes Go.ChangeShapes Go.ChangeAt Go.Deep
theorem rd_digs : RdW Try.prog 23 (fun w cs => ∃ v xs, cs = [v] ∧ Sl w digC 32 v xs ∧ xs.length * Try.prog.bytesOf 45 ≤ reachBytes ∧ ∀ (i : Nat) x, xs[i]? = some x → True) :=
  RdW.slice (Q := fun _ _ => True) Try.underlying23 (by kernel_rfl) digC_length (rd_dig.mono fun w cs ⟨d, h⟩ => ⟨d, h, trivial⟩)
theorem bytes_dig : Try.prog.bytesOf 45 = 32 := by kernel_rfl
theorem rd_nd : RdW Try.prog 48 (fun w cs => ∃ x : NdV, cs = ndC x ∧ Sl w digC 32 x.pv x.n.ps) :=
  (RdW.struct Try.underlying48 (fun i w cs => match i with | 0 => ∃ d, cs = digC d | _ => ∃ v xs, cs = [v] ∧ Sl w digC 32 v xs) (fun i f hf => by
    match i, hf with
    | 0, hf => simp at hf; subst hf; exact rd_dig
    | 1, hf => simp at hf; subst hf; exact rd_digs.mono fun w cs ⟨v, xs, h1, h2, _⟩ => ⟨v, xs, h1, h2⟩
    | i + 2, hf => simp at hf)).mono fun w cs ⟨hl, hg⟩ => by
      obtain ⟨d, hd⟩ := hg 0 _ rfl
      obtain ⟨v, xs, hv, hs⟩ := hg 1 _ rfl
      have hl2 : cs.length = 33 := by rw [hl]; kernel_rfl
      have c0 : Try.prog.cellsOf 45 = 32 := by kernel_rfl
      have c1 : Try.prog.cellsOf 23 = 1 := by kernel_rfl
      change (cs.drop 0).take (Try.prog.cellsOf 45) = digC d at hd
      change (cs.drop 32).take (Try.prog.cellsOf 23) = [v] at hv
      rw [c0, List.drop_zero] at hd
      rw [c1] at hv
      obtain ⟨A, c, rfl, _⟩ := hs.lens
      refine ⟨⟨⟨d, xs⟩, A, c⟩, ?_, hs⟩
      have e1 : cs = cs.take (32 + 1) := by rw [List.take_of_length_le (by omega)]
      rw [e1, list_split, hd, hv]
      rfl
theorem bytes_nd : Try.prog.bytesOf 48 = 56 := by kernel_rfl
theorem rd_nds : RdW Try.prog 22 (fun w cs => ∃ v xs, cs = [v] ∧ Sl w ndC 33 v xs ∧ xs.length * Try.prog.bytesOf 48 ≤ reachBytes ∧ ∀ (i : Nat) x, xs[i]? = some x → Sl w digC 32 x.pv x.n.ps) :=
  RdW.slice (Q := fun w x => Sl w digC 32 x.pv x.n.ps) Try.underlying22 (by kernel_rfl) ndC_length rd_nd
section
variable {H : Type} {en : TypeId × Value → H} {w : World} {v : Value} {d : DataW H} {ps : List MemPlace} {base : Nat}
set_option maxRecDepth 100000 in
theorem arg_digs (hv : Value.okWide Try.prog w .any base 23 v) (h : DataW.Trod en Try.prog w 0 (fun _ => true) true 23 v d ps) (hw : ∀ n ∈ d.weights Try.prog 23, n ≤ reachBytes) :
    ∃ xs, Sl w digC 32 v xs ∧ xs.length * 32 ≤ reachBytes := by
  obtain ⟨u, xs, hs, hb, hl, _⟩ := rd_digs.arg h hw
  obtain ⟨a, m, c, rfl⟩ := okWide_slice Try.underlying23 hv
  simp [Value.cells] at hs
  subst hs
  rw [bytes_dig] at hl
  exact ⟨xs, hb, hl⟩
set_option maxRecDepth 100000 in
theorem arg_nds (hv : Value.okWide Try.prog w .any base 22 v) (h : DataW.Trod en Try.prog w 0 (fun _ => true) true 22 v d ps) (hw : ∀ n ∈ d.weights Try.prog 22, n ≤ reachBytes) :
    ∃ xs, Nds w v xs ∧ xs.length * 56 ≤ reachBytes := by
  obtain ⟨u, xs, hs, hb, hl, hq⟩ := rd_nds.arg h hw
  obtain ⟨a, m, c, rfl⟩ := okWide_slice Try.underlying22 hv
  simp [Value.cells] at hs
  subst hs
  rw [bytes_nd] at hl
  refine ⟨xs, ⟨hb, fun x hx => ?_⟩, hl⟩
  obtain ⟨i, hi⟩ := List.mem_iff_getElem?.1 hx
  exact hq i x hi
set_option maxRecDepth 100000 in
theorem arg_nd (hv : Value.okWide Try.prog w .any base 48 v) (h : DataW.Trod en Try.prog w 0 (fun _ => true) true 48 v d ps) (hw : ∀ n ∈ d.weights Try.prog 48, n ≤ reachBytes) :
    ∃ x : NdV, v = ndV x ∧ Sl w digC 32 x.pv x.n.ps := by
  obtain ⟨x, hx, hs⟩ := rd_nd.arg h hw
  obtain ⟨cs, rfl, _⟩ := okWide_struct Try.underlying48 hv
  refine ⟨x, ?_, hs⟩
  have : cs.toList = ndC x := by simpa [Value.cells] using hx
  show Value.agg cs = .agg (ndC x).toArray
  rw [← this]
/-- How long it is. -/
theorem len_digs {xs : List Dig} (h : DataW.Trod en Try.prog w 0 (fun _ => true) true 23 v d ps) (hs : Sl w digC 32 v xs) : xs.length ≤ Rows.uptoBulk d := by
  obtain ⟨A, c, rfl, _⟩ := hs.lens
  obtain ⟨fuel, hf⟩ := h
  exact bulk_slice Try.underlying23 hf
theorem len_nds {xs : List NdV} (h : DataW.Trod en Try.prog w 0 (fun _ => true) true 22 v d ps) (hs : Nds w v xs) : xs.length ≤ Rows.uptoBulk d := by
  obtain ⟨A, c, rfl, _⟩ := hs.sl.lens
  obtain ⟨fuel, hf⟩ := h
  exact bulk_slice Try.underlying22 hf
theorem rd_digs3 : RdW Try.prog 32 (fun w cs => ∃ v0 v1 v2 a b c, cs = [v0, v1, v2] ∧ (Sl w digC 32 v0 a ∧ a.length * 32 ≤ reachBytes) ∧ (Sl w digC 32 v1 b ∧ b.length * 32 ≤ reachBytes) ∧ (Sl w digC 32 v2 c ∧ c.length * 32 ≤ reachBytes)) :=
  (RdW.array1 Try.underlying32 (by kernel_rfl) (by kernel_rfl) rd_digs).mono fun w cs ⟨hl, hg⟩ => by
    match cs, hl, hg with
    | [v0, v1, v2], _, hg =>
      obtain ⟨u0, a, h0, hs0, hl0, _⟩ := hg 0 v0 rfl
      obtain ⟨u1, b, h1, hs1, hl1, _⟩ := hg 1 v1 rfl
      obtain ⟨u2, c, h2, hs2, hl2, _⟩ := hg 2 v2 rfl
      cases h0; cases h1; cases h2
      rw [bytes_dig] at hl0 hl1 hl2
      exact ⟨_, _, _, a, b, c, rfl, ⟨hs0, hl0⟩, ⟨hs1, hl1⟩, hs2, hl2⟩
theorem rd_digs2 : RdW Try.prog 53 (fun w cs => ∃ v0 v1 a b, cs = [v0, v1] ∧ (Sl w digC 32 v0 a ∧ a.length * 32 ≤ reachBytes) ∧ (Sl w digC 32 v1 b ∧ b.length * 32 ≤ reachBytes)) :=
  (RdW.array1 Try.underlying53 (by kernel_rfl) (by kernel_rfl) rd_digs).mono fun w cs ⟨hl, hg⟩ => by
    match cs, hl, hg with
    | [v0, v1], _, hg =>
      obtain ⟨u0, a, h0, hs0, hl0, _⟩ := hg 0 v0 rfl
      obtain ⟨u1, b, h1, hs1, hl1, _⟩ := hg 1 v1 rfl
      cases h0; cases h1
      rw [bytes_dig] at hl0 hl1
      exact ⟨_, _, a, b, rfl, ⟨hs0, hl0⟩, hs1, hl1⟩
set_option maxRecDepth 100000 in
theorem arg_digs3 (hv : Value.okWide Try.prog w .any base 32 v) (h : DataW.Trod en Try.prog w 0 (fun _ => true) true 32 v d ps) (hw : ∀ n ∈ d.weights Try.prog 32, n ≤ reachBytes) :
    ∃ v0 v1 v2 a b c, v = .agg #[v0, v1, v2] ∧ (Sl w digC 32 v0 a ∧ a.length * 32 ≤ reachBytes) ∧ (Sl w digC 32 v1 b ∧ b.length * 32 ≤ reachBytes) ∧ (Sl w digC 32 v2 c ∧ c.length * 32 ≤ reachBytes) := by
  obtain ⟨v0, v1, v2, a, b, c, hs, hr⟩ := rd_digs3.arg h hw
  obtain ⟨cs, rfl, _⟩ := okWide_arr Try.underlying32 hv
  refine ⟨v0, v1, v2, a, b, c, ?_, hr⟩
  have : cs.toList = [v0, v1, v2] := by simpa [Value.cells] using hs
  congr 1
  exact Array.ext' (by simpa using this)
set_option maxRecDepth 100000 in
theorem arg_digs2 (hv : Value.okWide Try.prog w .any base 53 v) (h : DataW.Trod en Try.prog w 0 (fun _ => true) true 53 v d ps) (hw : ∀ n ∈ d.weights Try.prog 53, n ≤ reachBytes) :
    ∃ v0 v1 a b, v = .agg #[v0, v1] ∧ (Sl w digC 32 v0 a ∧ a.length * 32 ≤ reachBytes) ∧ (Sl w digC 32 v1 b ∧ b.length * 32 ≤ reachBytes) := by
  obtain ⟨v0, v1, a, b, hs, hr⟩ := rd_digs2.arg h hw
  obtain ⟨cs, rfl, _⟩ := okWide_arr Try.underlying53 hv
  refine ⟨v0, v1, a, b, ?_, hr⟩
  have : cs.toList = [v0, v1] := by simpa [Value.cells] using hs
  congr 1
  exact Array.ext' (by simpa using this)
/-- How long each is. -/
theorem len_arr {t : TypeId} {m : Nat} (ht : Try.prog.underlying t = some (.array m 23)) {cs : List Value} (h : DataW.Trod en Try.prog w 0 (fun _ => true) true t (.agg cs.toArray) d ps) : ∀ (i : Nat) (u : Value) (xs : List Dig), i < m → cs[i]? = some u → Sl w digC 32 u xs → xs.length ≤ Rows.uptoBulk d := by
  obtain ⟨fuel, hf⟩ := h
  obtain ⟨ys, n, _, hx, hl, hyl, hi⟩ := DataW.trod_array ht hf
  injection hx with h1 h2
  subst h1
  intro i u xs him hu hs
  have h3 := hi i him
  have c1 : Try.prog.cellsOf 23 = 1 := by kernel_rfl
  rw [c1, Nat.mul_one] at h3
  have hlt : i < cs.length := (List.getElem?_eq_some_iff.1 hu).1
  have e0 : (Value.agg cs.toArray).cells.toList = cs := by simp [Value.cells]
  have e1 : ((Value.agg cs.toArray).cells.toList.drop i).take 1 = [u] := by
    rw [e0, List.drop_eq_getElem_cons hlt, (List.getElem?_eq_some_iff.1 hu).2]; rfl
  rw [e1, List.getElem?_eq_getElem (by omega)] at h3
  obtain ⟨A, c, rfl, _⟩ := hs.lens
  have h4 := bulk_slice Try.underlying23 h3
  have h5 := bulk_part (d := (ys[i]'(by omega)).1) (l := ys.map (·.1)) (List.mem_map.2 ⟨_, List.getElem_mem _, rfl⟩)
  simp only [Rows.uptoBulk]
  exact Nat.le_succ_of_le (Nat.le_trans h4 h5)
end
end Go.Proofs.Ytecolkngbcgmcaa
