/- Rules for (*Hash).Sum: make, an array value's index, a Hash copied. No condition. -/
import Derived.Test.YtkbmlnkoejlgmaaDoorSs
import Derived.Test.YtkbmlnkoejlgmaaDoorSp
set_option linter.unusedSimpArgs false
set_option linter.unusedVariables false
namespace Go.Proofs.YtkbmlnkoejlgmaaDoor
open Go.RowKit Go.Fw Go.Pl
theorem run_make128 (w : World) : (Instr.makeSlice 26 (.int .i64 1) (.int .i64 128)).run Tryd.prog w = .ok (.slice (some ⟨w.heap.size, 0, none⟩) 1 128) (w.alloc (.cells (bytesC (List.replicate 128 0)).toArray 5)) := by
  kernel_rfl
theorem hashC_len {s : V8} {rest : List UInt8} {k : Nat} (h : rest.length = 64) : (hashC s rest k).length = 74 := by
  rw [hashC, List.length_cons, List.length_append, List.length_append, bytesC_length, h]; rfl
theorem sz_digestHash {s : V8} {rest : List UInt8} {k : Nat} (h : rest.length = 64) : (Tryd.prog.info? TH).map (·.size) = some (hashC s rest k).length := by
  rw [hashC_len h]; kernel_rfl
def hashZ : List Value := .bool false :: (wds (List.replicate 8 0) ++ (bytesC (List.replicate 64 0) ++ [.int .i64 0]))
theorem info_hash : ∃ i : TypeInfo, Tryd.prog.info? TH = some i ∧ i.zero = some (.agg hashZ.toArray) ∧ i.size = 74 := by
  have h : (Tryd.prog.info? TH).map (fun i => (i.zero, i.size)) = some (some (.agg hashZ.toArray), 74) := by kernel_rfl
  cases hi : Tryd.prog.info? TH with
  | none => simp [hi] at h
  | some i => simp [hi] at h; exact ⟨i, rfl, h.1, h.2⟩
theorem one_hash {s : V8} {rest : List UInt8} {k : Nat} : ∀ u ∈ hashC s rest k, u.oneCell' = true := by
  intro u hu
  simp only [hashC, List.mem_cons, List.mem_append, List.not_mem_nil, or_false] at hu
  rcases hu with rfl | hu | hu | rfl
  · rfl
  · exact wds_one u hu
  · exact one_bytesC u hu
  · rfl
theorem as_digestHash {n : NN} {Φ : Exit → Fr → World → Prop} {fr : Fr} {w : World} {ops : Array Oper} {rest : List Oper} {d : Nat} {x : Operand} {ty ty' : TypeId} {pos pos' : String} {aft aft' : Array Edge} {s : V8} {rs : List UInt8} {k : Nat}
    (hrl : rs.length = 64) (hx : ev fr x = some (.agg (hashC s rs k).toArray)) (hxd : x ≠ .tmp d) (hd : d < n.1)
    (h : ∀ g w', Ext w w' → w.heap.size ≤ g → Blk w' g TH (hashC s rs k) → WL Tryd.prog ops n Φ rest ((d, .pointer (some ⟨g, 0, none⟩)) :: fr) w') :
    WL Tryd.prog ops n Φ (⟨some d, .alloc TH, ty, pos, aft, none⟩ :: ⟨none, .store TH (.tmp d) x, ty', pos', aft', none⟩ :: rest) fr w := by
  obtain ⟨i, hi, hz, hs⟩ := info_hash
  exact WL.allocStore (cs := hashC s rs k) (zs := hashZ) hi hz rfl (by rw [hs, hashC_len hrl]) (by rw [hashC_len hrl]; rfl) hx hxd rfl one_hash hd h
section
variable {n : NN} {fr : Fr} {w : World} {ty : TypeId} {x y : Operand} {t' : TypeId}
theorem cells128 : bytesC [0] ++ bytesC (List.replicate 127 0) = bytesC (List.replicate 128 0) := by
  rw [← bytesC_append, List.singleton_append, ← List.replicate_succ]
theorem St.make128 : St Tryd.prog n fr (.makeSlice 26 (.const (.int .i64 1)) (.const (.int .i64 128))) ty w (fun v w' => ∃ g, v = .slice (some ⟨g, 0, none⟩) 1 128 ∧ w.heap.size ≤ g ∧ Own w' TB 1 v (bytesC [0]) ∧ Ext w w') := fun a o' ho hty ha => by
  refine ⟨.slice (some ⟨w.heap.size, 0, none⟩) 1 128, w.alloc (.cells (bytesC (List.replicate 128 0)).toArray 5), ?_, w.heap.size, rfl, Nat.le_refl _, .inr ⟨w.heap.size, 1, 128, bytesC (List.replicate 127 0), (0, 0), rfl, ?_, by rw [bytesC_length]; rfl, by decide, by decide, ?_, fun o h => by omega⟩, Chg.alloc _⟩
  · simp only [execOp, ho, Act.eval, Sem.run_bind, run_make128]
    rfl
  · rw [cells128]; exact heap_alloc_new w _
  · rw [cells128, bytesC_length, List.length_replicate]
theorem Y.index_ws {v : V8} {i : Nat} {z : UInt32} (hx : ev fr x = some (stV v)) (hy : ev fr y = some (.int .i64 (i : Int))) (hv : v.ws[i]? = some z) : Yw Tryd.prog n fr (.index TS x y) ty w (wd z) w := fun b o' ho _ ha => by
  have hlt : i < 8 := (List.getElem?_eq_some_iff.1 hv).1
  have h2 : (part 72 (wds v.ws).toArray i).run Tryd.prog w = .ok (wd z) w := by
    simp [part, Tryd.isAgg72, hv]
  simp [execOp, ho, ha.ev hx, ha.ev hy, Instr.index, asIntOf, run_underlying Tryd.underlying74, stV, hlt, fw_sizeOf sz_u32, h2]
end
end Go.Proofs.YtkbmlnkoejlgmaaDoor
