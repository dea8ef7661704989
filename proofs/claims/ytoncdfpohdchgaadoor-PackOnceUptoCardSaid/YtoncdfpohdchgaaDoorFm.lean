/- The operations that make, read and write memory, as rules of the calculus. No condition; no program. -/
import Derived.Test.YtoncdfpohdchgaaDoorFy
set_option linter.unusedSimpArgs false
set_option linter.unusedVariables false
namespace Go.Fw
open Go.RowKit

section Y
variable {P : Program} {n : NN} {fr : Fr} {w : World} {ty : TypeId}

def notAgg : TypeDesc → Bool
  | .struct _ | .array _ _ => false
  | _ => true
theorem fw_isAgg_no {t : TypeId} {d : TypeDesc} (hT : P.underlying t = some d) (hd : notAgg d = true) : (isAgg t).run P w = .ok false w := by
  unfold isAgg
  rw [Sem.run_bind, run_underlying hT]
  cases d <;> simp_all [notAgg]
theorem fw_isAgg_yes {t : TypeId} {d : TypeDesc} (hT : P.underlying t = some d) (hd : notAgg d = false) : (isAgg t).run P w = .ok true w := by
  unfold isAgg
  rw [Sem.run_bind, run_underlying hT]
  cases d <;> simp_all [notAgg]
theorem fw_sizeOf {t : TypeId} {k : Nat} (hS : (P.info? t).map (·.size) = some k) : (sizeOf t).run P w = .ok k w := by
  cases h : P.info? t with
  | none => simp [h] at hS
  | some i => simp [h] at hS; simp [sizeOf, typeInfo, h, hS]
theorem run_load_cell {a : Addr} {v : Value} (hc : w.cell? a = some v) : (load a).run P w = .ok v w := by
  simp only [load, Sem.run, hc]
theorem run_loadVar1 {t : TypeId} {d : TypeDesc} {a : Addr} {v : Value} (hT : P.underlying t = some d) (hd : notAgg d = true) (hc : w.cell? a = some v) : (loadVar t a).run P w = .ok v w := by
  simp [loadVar, fw_isAgg_no hT hd, hc]
theorem run_loadVarA {t : TypeId} {d : TypeDesc} {a : Addr} {cs : List Value} (hT : P.underlying t = some d) (hd : notAgg d = false) (hS : (P.info? t).map (·.size) = some cs.length) (hm : Mem w a cs) :
    (loadVar t a).run P w = .ok (.agg cs.toArray) w := by
  have h1 := run_loadCells_list (P := P) w a cs hm
  simp [loadVar, fw_isAgg_yes hT hd, fw_sizeOf hS, h1]

theorem Y.load1 {x : Operand} {t : TypeId} {d : TypeDesc} {a : Addr} {v : Value} (hT : P.underlying t = some d) (hx : ev fr x = some (.pointer (some a))) (hc : w.cell? a = some v) (hd : notAgg d = true) :
    Yw P n fr (.load t x) ty w v w := fun b o' ho _ ha => by
  simp [execOp, ho, ha.ev hx, Instr.loadAt, Instr.sureAddr, run_loadVar1 hT hd hc]
theorem Y.load {x : Operand} {t : TypeId} {d : TypeDesc} {a : Addr} {cs : List Value} (hT : P.underlying t = some d) (hx : ev fr x = some (.pointer (some a))) (hm : Mem w a cs)
    (hS : (P.info? t).map (·.size) = some cs.length) (hd : notAgg d = false) : Yw P n fr (.load t x) ty w (.agg cs.toArray) w := fun b o' ho _ ha => by
  simp [execOp, ho, ha.ev hx, Instr.loadAt, Instr.sureAddr, run_loadVarA hT hd hS hm]
/-- Field k of the struct type t lies at 'off'. -/
def FieldOff (P : Program) (t : TypeId) (k off : Nat) : Prop := ∃ fs f m, P.underlying t = some (.struct fs) ∧ fs[k]? = some f ∧ (P.info? f.type).map (·.size) = some m ∧ m ≠ 0 ∧ f.offset = off
theorem Y.fieldAddr {x : Operand} {t : TypeId} {k off : Nat} {a : Addr} (h : FieldOff P t k off) (hx : ev fr x = some (.pointer (some a))) : Yw P n fr (.fieldAddr t x k) ty w (.pointer (some (a.add off))) w := fun b o' ho _ ha => by
  obtain ⟨fs, f, m, hT, hf, hS, hm, rfl⟩ := h
  simp [execOp, ho, ha.ev hx, Instr.fieldAt, Instr.sureAddr, run_underlying hT, hf, fieldPlace, fw_sizeOf hS, hm]
theorem Y.indexAddr {x y : Operand} {t e : TypeId} {a : Addr} {m c k : Nat} {ki : IntKind} {i : Int} (hT : P.underlying t = some (.slice e)) (hx : ev fr x = some (.slice (some a) m c)) (hy : ev fr y = some (.int ki i))
    (hS : (P.info? e).map (·.size) = some k) (h0 : 0 ≤ i) (h1 : i < (m : Int)) : Yw P n fr (.indexAddr t x y) ty w (.pointer (some (a.add (i.toNat * k)))) w := fun b o' ho _ ha => by
  simp [execOp, ho, ha.ev hx, ha.ev hy, Instr.indexAt, asIntOf, run_underlying hT, h0, h1, fw_sizeOf hS]
theorem Y.indexAddrA {x y : Operand} {t e : TypeId} {a : Addr} {m k : Nat} {ki : IntKind} {i : Int} (hT : P.underlying t = some (.array m e)) (hx : ev fr x = some (.pointer (some a))) (hy : ev fr y = some (.int ki i))
    (hS : (P.info? e).map (·.size) = some k) (h0 : 0 ≤ i) (h1 : i < (m : Int)) : Yw P n fr (.indexAddr t x y) ty w (.pointer (some (a.add (i.toNat * k)))) w := fun b o' ho _ ha => by
  simp [execOp, ho, ha.ev hx, ha.ev hy, Instr.indexAt, Instr.sureAddr, asIntOf, run_underlying hT, h0, h1, fw_sizeOf hS]
theorem Y.indexAddrN {x y : Operand} {t e : TypeId} {a : Addr} {m c k : Nat} {ki : IntKind} {i : Nat} (hT : P.underlying t = some (.slice e)) (hx : ev fr x = some (.slice (some a) m c)) (hy : ev fr y = some (.int ki (i : Int)))
    (hS : (P.info? e).map (·.size) = some k) (h1 : i < m) : Yw P n fr (.indexAddr t x y) ty w (.pointer (some (a.add (i * k)))) w := Y.indexAddr hT hx hy hS (by omega) (by omega)
theorem Y.indexAddrAN {x y : Operand} {t e : TypeId} {a : Addr} {m k : Nat} {ki : IntKind} {i : Nat} (hT : P.underlying t = some (.array m e)) (hx : ev fr x = some (.pointer (some a))) (hy : ev fr y = some (.int ki (i : Int)))
    (hS : (P.info? e).map (·.size) = some k) (h1 : i < m) : Yw P n fr (.indexAddr t x y) ty w (.pointer (some (a.add (i * k)))) w := Y.indexAddrA hT hx hy hS (by omega) (by omega)
theorem Y.makeFunc {f : Fn} {xs : List Operand} {vs : List Value} (hx : evs fr xs = some vs) : Yw P n fr (.makeFunc f #[] xs.toArray) ty w (.func f #[] vs.toArray) w := fun b o' ho _ ha => by
  have := ha.evs hx
  simp [execOp, ho, Instr.makeFunc, this]
theorem Y.makeIface {x : Operand} {t : TypeId} {v : Value} (hT : P.concrete t = true) (hx : ev fr x = some v) : Yw P n fr (.makeInterface t x) ty w (.iface t v) w := fun b o' ho _ ha => by
  simp [execOp, ho, ha.ev hx, run_makeInterface w t v hT]
theorem Y.build0 {t : TypeId} {v : Value} (hr : (Instr.build t #[]).run P w = .ok v w) : Yw P n fr (.build t #[]) ty w v w := fun b o' ho _ ha => by
  simp [execOp, ho, hr]
theorem Y.slice_arr {x : Operand} {t e : TypeId} {m k : Nat} {a : Addr} (hT : P.underlying t = some (.array m e)) (hx : ev fr x = some (.pointer (some a))) (hS : (P.info? e).map (·.size) = some k) :
    Yw P n fr (.slice t x none none none) ty w (.slice (some a) m m) w := fun b o' ho _ ha => by
  simp [execOp, ho, ha.ev hx, Instr.sliceAt, Instr.sureAddr, run_underlying hT, Instr.sliceBounds, fw_sizeOf hS]
  intro _; simp [Addr.add]
end Y

/-! ## Rules that make a new world -/
section rules
variable {P : Program} {n : NN} {Φ : Exit → Fr → World → Prop} {fr : Fr} {w : World}

theorem WL.box {ops : Array Oper} {rest : List Oper} {d : Nat} {t : TypeId} {x : Operand} {ty : TypeId} {pos : String} {aft : Array Edge} {v : Value} {cs : List Value}
    (hx : ev fr x = some v) (hv : v.cells = cs.toArray) (hd : d < n.1)
    (h : ∀ g w', Ext w w' → w.heap.size ≤ g → Blk w' g t cs → WL P ops n Φ rest ((d, .pointer (some ⟨g, 0, none⟩)) :: fr) w') :
    WL P ops n Φ (⟨some d, .box t x, ty, pos, aft, none⟩ :: rest) fr w := fun a ha =>
  wpList_plain rfl fun K hK => by
    have hrun : (execOp a.eval ⟨some d, .box t x, ty, pos, aft, none⟩).run P w = .ok (.value (.pointer (some ⟨w.heap.size, 0, none⟩))) (w.alloc (.cells cs.toArray t)) := by
      simp [execOp, ha.ev hx, Instr.box, newVar, newRow, hv]
    unfold Oper.wp
    rw [hrun]
    exact hK _ _ (h w.heap.size _ (Chg.alloc _) (Nat.le_refl _) (Blk.new w t cs) _ (ha.put hd _))
theorem WL.alloc {ops : Array Oper} {rest : List Oper} {d : Nat} {t : TypeId} {ty : TypeId} {pos : String} {aft : Array Edge} {i : TypeInfo} {z : Value} {cs : List Value}
    (hi : P.info? t = some i) (hz : i.zero = some z) (hv : z.cells = cs.toArray) (hd : d < n.1)
    (h : ∀ g w', Ext w w' → w.heap.size ≤ g → Blk w' g t cs → WL P ops n Φ rest ((d, .pointer (some ⟨g, 0, none⟩)) :: fr) w') :
    WL P ops n Φ (⟨some d, .alloc t, ty, pos, aft, none⟩ :: rest) fr w := fun a ha =>
  wpList_plain rfl fun K hK => by
    have hrun : (execOp a.eval ⟨some d, .alloc t, ty, pos, aft, none⟩).run P w = .ok (.value (.pointer (some ⟨w.heap.size, 0, none⟩))) (w.alloc (.cells cs.toArray t)) := by
      simp [execOp, Instr.alloc, zeroValue, typeInfo, hi, hz, newVar, newRow, hv]
    unfold Oper.wp
    rw [hrun]
    exact hK _ _ (h w.heap.size _ (Chg.alloc _) (Nat.le_refl _) (Blk.new w t cs) _ (ha.put hd _))

/-- A run of cells of a block is written over. -/
theorem run_storeCells_blk {g : Nat} {t : TypeId} {pre old post new : List Value} (hb : Blk w g t (pre ++ old ++ post)) (hl : new.length = old.length) (h1 : ∀ u ∈ new, u.oneCell' = true) :
    ∃ w', (storeCells ⟨g, pre.length, none⟩ new).run P w = .ok () w' ∧ Chg (· = g) w w' ∧ Blk w' g t (pre ++ new ++ post) := by
  have hst := run_storeCells_at P g pre.length t new 0 (pre ++ old ++ post).toArray w hb (by simp; omega) h1
  simp only [Nat.add_zero] at hst
  have heq : ((pre ++ old ++ post).toArray.toList.take pre.length ++ new ++ (pre ++ old ++ post).toArray.toList.drop (pre.length + new.length)).toArray = (pre ++ new ++ post).toArray := by
    congr 1
    rw [List.toList_toArray, List.append_assoc pre old post, List.take_left, hl, ← List.append_assoc pre old post]
    congr 1
    rw [show pre.length + old.length = (pre ++ old).length by simp, List.drop_left]
  rw [heq] at hst
  refine ⟨_, hst, ⟨rfl, rfl, rfl, by simp, fun k hk hn => setRow_other w g k _ hn, Nat.le_refl _⟩, setRow_heap w g _ _ t _ hb⟩
theorem WL.store {ops : Array Oper} {rest : List Oper} {t e : TypeId} {x y : Operand} {ty : TypeId} {pos : String} {aft : Array Edge} {v : Value} {g : Nat} {pre old post new : List Value} {A : Addr}
    (hx : ev fr x = some (.pointer (some A))) (hA : A = ⟨g, pre.length, none⟩) (hy : ev fr y = some v) (hv : v.cells = new.toArray) (hS : (P.info? t).map (·.size) = some new.length)
    (hb : Blk w g e (pre ++ old ++ post)) (hl : new.length = old.length) (h1 : ∀ u ∈ new, u.oneCell' = true)
    (h : ∀ w', Chg (· = g) w w' → Blk w' g e (pre ++ new ++ post) → WL P ops n Φ rest fr w') :
    WL P ops n Φ (⟨none, .store t x y, ty, pos, aft, none⟩ :: rest) fr w := fun a ha =>
  wpList_plain rfl fun K hK => by
    obtain ⟨w', hst, hc, hb'⟩ := run_storeCells_blk (P := P) hb hl h1
    have hrun : (execOp a.eval ⟨none, .store t x y, ty, pos, aft, none⟩).run P w = .ok .skip w' := by
      simp [execOp, ha.ev hx, ha.ev hy, Instr.storeAt, Instr.sureAddr, storeVar, fw_sizeOf hS, hv, hA, hst]
    unfold Oper.wp
    rw [hrun]
    exact hK _ _ (h w' hc hb' _ ha)
/-- 'alloc', then the whole of it stored: a box. -/
theorem WL.allocStore {ops : Array Oper} {rest : List Oper} {d : Nat} {t : TypeId} {x : Operand} {ty ty' : TypeId} {pos pos' : String} {aft aft' : Array Edge} {v : Value} {cs zs : List Value} {i : TypeInfo} {z : Value}
    (hi : P.info? t = some i) (hz : i.zero = some z) (hzv : z.cells = zs.toArray) (hi' : i.size = cs.length) (hlen : cs.length = zs.length)
    (hx : ev fr x = some v) (hxd : x ≠ .tmp d) (hv : v.cells = cs.toArray) (h1 : ∀ u ∈ cs, u.oneCell' = true) (hd : d < n.1)
    (h : ∀ g w', Ext w w' → w.heap.size ≤ g → Blk w' g t cs → WL P ops n Φ rest ((d, .pointer (some ⟨g, 0, none⟩)) :: fr) w') :
    WL P ops n Φ (⟨some d, .alloc t, ty, pos, aft, none⟩ :: ⟨none, .store t (.tmp d) x, ty', pos', aft', none⟩ :: rest) fr w := by
  refine WL.alloc hi hz hzv hd fun g w1 hw1 hg hb => ?_
  have hx' : ev ((d, .pointer (some ⟨g, 0, none⟩)) :: fr) x = some v := by
    cases x with
    | tmp u =>
      have hne : Nat.beq d u = false := by
        rw [Bool.eq_false_iff]
        intro e
        exact hxd (by rw [Nat.eq_of_beq_eq_true e])
      simp only [ev, Fr.get, hne, cond_false]
      exact hx
    | _ => exact hx
  have hself : ev ((d, .pointer (some ⟨g, 0, none⟩)) :: fr) (.tmp d) = some (.pointer (some ⟨g, 0, none⟩)) := by
    have : Nat.beq d d = true := Nat.beq_refl d
    simp only [ev, Fr.get, this, cond_true]
  refine WL.store (pre := []) (old := zs) (post := []) (new := cs) hself rfl hx' hv (by simp [hi, hi']) (by simpa using hb) hlen h1 fun w2 hc hb2 => ?_
  refine h g w2 ((hw1.chg (S := (· = g))).trans hc (fun _ _ h => h) |>.toExt fun k hk e => ?_) hg (by simpa using hb2)
  omega
/-- The same, where the variable has one cell. -/
theorem WL.allocStore1 {ops : Array Oper} {rest : List Oper} {d : Nat} {t : TypeId} {x : Operand} {ty ty' : TypeId} {pos pos' : String} {aft aft' : Array Edge} {v : Value}
    (hI : (P.info? t).map (fun i => (i.zero.map fun z => z.cells.size, i.size)) = some (some 1, 1)) (hx : ev fr x = some v) (hxd : x ≠ .tmp d) (hv : v.cells = #[v]) (h1 : v.oneCell' = true) (hd : d < n.1)
    (h : ∀ g w', Ext w w' → w.heap.size ≤ g → Blk w' g t [v] → WL P ops n Φ rest ((d, .pointer (some ⟨g, 0, none⟩)) :: fr) w') :
    WL P ops n Φ (⟨some d, .alloc t, ty, pos, aft, none⟩ :: ⟨none, .store t (.tmp d) x, ty', pos', aft', none⟩ :: rest) fr w := by
  obtain ⟨i, hi, hp⟩ := Option.map_eq_some_iff.1 hI
  injection hp with hp1 hp2
  obtain ⟨z, hz, hzs⟩ := Option.map_eq_some_iff.1 hp1
  exact WL.allocStore (zs := z.cells.toList) hi hz (by simp) (by rw [hp2]; rfl) (by simp [hzs]) hx hxd hv (by intro u hu; simp at hu; subst hu; exact h1) hd h
/-- The same, where nothing is stored. -/
theorem WL.alloc1 {ops : Array Oper} {rest : List Oper} {d : Nat} {t : TypeId} {ty : TypeId} {pos : String} {aft : Array Edge} {z : Value}
    (hI : (P.info? t).map (fun i => i.zero) = some (some z)) (hz : z.cells = #[z]) (hd : d < n.1)
    (h : ∀ g w', Ext w w' → w.heap.size ≤ g → Blk w' g t [z] → WL P ops n Φ rest ((d, .pointer (some ⟨g, 0, none⟩)) :: fr) w') :
    WL P ops n Φ (⟨some d, .alloc t, ty, pos, aft, none⟩ :: rest) fr w := by
  obtain ⟨i, hi, hp⟩ := Option.map_eq_some_iff.1 hI
  exact WL.alloc (cs := [z]) hi hp hz hd h
end rules
end Go.Fw
