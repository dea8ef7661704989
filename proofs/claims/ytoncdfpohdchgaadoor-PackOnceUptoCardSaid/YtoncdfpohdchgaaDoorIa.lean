/- Slices of ints, and of elements of several cells, of our own: made, read, written, cleared; method values. No condition. -/
import Derived.Test.YtoncdfpohdchgaaDoorBo
import Derived.Test.YtoncdfpohdchgaaDoorPk
set_option linter.unusedSimpArgs false
set_option linter.unusedVariables false
namespace Go.Fw
open Go.RowKit
theorem range_cells {c : Array Value} : ∀ m : Nat, (List.range (m * c.size)).map (fun i => c[i % c.size]!) = (List.replicate m c.toList).flatten
  | 0 => by simp
  | m + 1 => by
    have ih := range_cells (c := c) m
    rw [Nat.succ_mul, List.range_add, List.map_append, ih, List.replicate_succ', List.flatten_append]
    congr 1
    rw [List.map_map]
    simp only [List.flatten_cons, List.flatten_nil, List.append_nil]
    apply List.ext_getElem?
    intro j
    rw [List.getElem?_map]
    by_cases hj : j < c.size
    · rw [List.getElem?_range hj]
      have e : (m * c.size + j) % c.size = j := by rw [Nat.mul_comm, Nat.mul_add_mod]; exact Nat.mod_eq_of_lt hj
      simp only [Option.map_some, Function.comp_apply, e, Array.getElem?_toList]
      simp [hj]
    · rw [List.getElem?_eq_none (by simpa using hj), List.getElem?_eq_none (by simpa using hj)]
      rfl
theorem madeCells_flat {c : Array Value} (m : Nat) : madeCells c (m * c.size) = ((List.replicate m c.toList).flatten).toArray := by
  unfold madeCells
  rw [← range_cells]
  apply Array.ext'
  simp [Array.toList_range]
theorem zeroCells_flat {c : Array Value} (m : Nat) : (Builtin.zeroCells c m).toList = (List.replicate m c.toList).flatten := by
  unfold Builtin.zeroCells
  rw [← range_cells]
  simp [Array.toList_range]
/-- What make wants to know of an element's type: the zero's cells, the bytes. -/
def MakeInfo (P : Program) (e : TypeId) (zs : List Value) (b : Nat) : Prop := ∃ i z, P.info? e = some i ∧ i.zero = some z ∧ z.cells = zs.toArray ∧ i.size = zs.length ∧ i.bytes = b
section
variable {P : Program} {n : NN} {Φ : Exit → Fr → World → Prop} {fr : Fr} {w : World} {ty : TypeId} {e : TypeId}
theorem St.makeK {t : TypeId} {x y : Operand} {k k' : IntKind} {m b : Nat} {zs : List Value} (hT : P.underlying t = some (.slice e)) (hi : MakeInfo P e zs b)
    (hx : ev fr x = some (.int k (m : Int))) (hy : ev fr y = some (.int k' (m : Int))) (hm : b * m ≤ 281474976710656) (hm2 : m ≤ 9223372036854775807) :
    St P n fr (.makeSlice t x y) ty w (fun v w' => ∃ g, v = .slice (some ⟨g, 0, none⟩) m m ∧ w.heap.size ≤ g ∧ Blk w' g e ((List.replicate m zs).flatten) ∧ Ext w w') := fun a o' ho hty ha => by
  obtain ⟨i, z, hi, hz, hzc, hs, rfl⟩ := hi
  have hr := run_make (P := P) w t e i z hT hi hz k k' (m : Int) (m : Int) (by omega) (Int.le_refl _) (by rw [← Int.natCast_mul]; omega) (by omega)
  simp only [Int.toNat_natCast] at hr
  have hsz : i.size = z.cells.size := by rw [hs, hzc]; simp
  rw [hsz, madeCells_flat, hzc] at hr
  refine ⟨_, w.alloc (.cells ((List.replicate m zs).flatten).toArray e), ?_, w.heap.size, rfl, Nat.le_refl _, Blk.new w e _, Chg.alloc _⟩
  simp only [execOp, ho, ha.ev hx, ha.ev hy, Sem.run_bind]
  rw [hr]; rfl
/-- One cell of a block of our own is written. -/
theorem WL.storeC {ops : Array Oper} {rest : List Oper} {t : TypeId} {x y : Operand} {pos : String} {aft : Array Edge} {v : Value} {cs : List Value} {b i : Nat} {A : Addr}
    (hx : ev fr x = some (.pointer (some A))) (hA : A = (⟨b, 0, none⟩ : Addr).add (i * 1)) (hy : ev fr y = some v) (hv : v.cells = #[v]) (h1 : v.oneCell' = true) (hS : (P.info? t).map (·.size) = some 1) (hB : Blk w b e cs) (hi : i < cs.length)
    (h : ∀ w', Chg (· = b) w w' → Blk w' b e (cs.set i v) → WL P ops n Φ rest fr w') : WL P ops n Φ (⟨none, .store t x y, ty, pos, aft, none⟩ :: rest) fr w := by
  have e1 : cs = cs.take i ++ [cs[i]] ++ cs.drop (i + 1) := by
    conv => lhs; rw [← List.take_append_drop i cs, List.drop_eq_getElem_cons hi]
    simp
  have e2 : cs.set i v = cs.take i ++ [v] ++ cs.drop (i + 1) := by
    rw [List.set_eq_take_append_cons_drop, if_pos hi]; simp
  refine WL.store (g := b) (pre := cs.take i) (old := [cs[i]]) (post := cs.drop (i + 1)) (new := [v]) hx ?_ hy hv hS (e1 ▸ hB) rfl (one1 h1) fun w' hc hB' => ?_
  · rw [hA, Nat.mul_one, add_zero', List.length_take, Nat.min_eq_left (by omega)]
  · exact h w' hc (e2 ▸ hB')
/-- An element of several cells is written. -/
theorem flat_split {α : Type} {enc : α → List Value} {xs : List α} {i : Nat} {y : α} (x : α) (h : xs[i]? = some y) :
    (xs.map enc).flatten = ((xs.take i).map enc).flatten ++ enc y ++ ((xs.drop (i + 1)).map enc).flatten ∧ ((xs.set i x).map enc).flatten = ((xs.take i).map enc).flatten ++ enc x ++ ((xs.drop (i + 1)).map enc).flatten := by
  obtain ⟨hlt, hc⟩ := List.getElem?_eq_some_iff.1 h
  have e1 : xs = xs.take i ++ [y] ++ xs.drop (i + 1) := by
    conv => lhs; rw [← List.take_append_drop i xs, List.drop_eq_getElem_cons hlt, hc]
    simp
  have e2 : xs.set i x = xs.take i ++ [x] ++ xs.drop (i + 1) := by
    rw [List.set_eq_take_append_cons_drop, if_pos hlt]; simp
  constructor
  · conv => lhs; rw [e1]
    simp
  · rw [e2]; simp
theorem WL.storeK {α : Type} {enc : α → List Value} {k : Nat} (he : ∀ x, (enc x).length = k) (h1 : ∀ x, ∀ u ∈ enc x, u.oneCell' = true) {ops : Array Oper} {rest : List Oper} {t : TypeId} {x y : Operand} {pos : String} {aft : Array Edge} {v : α} {val : Value} {c : α} {xs : List α} {b i : Nat} {A : Addr}
    (hx : ev fr x = some (.pointer (some A))) (hA : A = (⟨b, 0, none⟩ : Addr).add (i * k)) (hy : ev fr y = some val) (hv : val.cells = (enc v).toArray) (hS : (P.info? t).map (·.size) = some k) (hB : Blk w b e ((xs.map enc).flatten)) (hi : xs[i]? = some c)
    (h : ∀ w', Chg (· = b) w w' → Blk w' b e (((xs.set i v).map enc).flatten) → WL P ops n Φ rest fr w') : WL P ops n Φ (⟨none, .store t x y, ty, pos, aft, none⟩ :: rest) fr w := by
  obtain ⟨e1, e2⟩ := flat_split (enc := enc) v hi
  have hlt := (List.getElem?_eq_some_iff.1 hi).1
  refine WL.store (g := b) (pre := ((xs.take i).map enc).flatten) (old := enc c) (post := ((xs.drop (i + 1)).map enc).flatten) (new := enc v) hx ?_ hy hv (by rw [hS, he]) (e1 ▸ hB) (by rw [he, he]) (h1 v) fun w' hc hB' => ?_
  · rw [hA, add_zero', flat_length he, List.length_take, Nat.min_eq_left (by omega)]
  · exact h w' hc (e2 ▸ hB')
theorem Blk.kmem {α : Type} {enc : α → List Value} {k : Nat} (he : ∀ x, (enc x).length = k) {xs : List α} {b i : Nat} {x : α} (h : Blk w b e ((xs.map enc).flatten)) (hi : xs[i]? = some x) : Mem w ((⟨b, 0, none⟩ : Addr).add (i * k)) (enc x) :=
  h.mem.sub (i * k) fun j v hv => flat_at he xs i x hi j v hv
/-! ## Ints -/
abbrev intE (m : Nat) : List Value := [.int .i64 (m : Int)]
def intC (S : List Nat) : List Value := S.map fun (m : Nat) => Value.int .i64 (m : Int)
theorem intC_length (S : List Nat) : (intC S).length = S.length := by simp [intC]
theorem Blk.icell {S : List Nat} {b i m : Nat} (h : Blk w b e (intC S)) (hi : S[i]? = some m) : w.cell? ((⟨b, 0, none⟩ : Addr).add (i * 1)) = some (.int .i64 (m : Int)) := by
  rw [Nat.mul_one]
  exact h.mem.cell i (by rw [intC, List.getElem?_map, hi]; rfl)
theorem intC_set (S : List Nat) (i m : Nat) : (intC S).set i (.int .i64 (m : Int)) = intC (S.set i m) := by rw [intC, intC, List.map_set]
theorem intC_zeros (m : Nat) : (List.replicate m [Value.int .i64 0]).flatten = intC (List.replicate m 0) := by
  induction m with
  | zero => rfl
  | succ m ih => rw [List.replicate_succ, List.flatten_cons, ih]; rfl
theorem Su.clearI {t : TypeId} {x : Operand} {m c b : Nat} {S : List Nat} (hT : P.underlying t = some (.slice e)) (hz : ∀ w, (zeroValue e).run P w = .ok (.int .i64 0) w) (hx : ev fr x = some (.slice (some ⟨b, 0, none⟩) m c)) (hB : Blk w b e (intC S)) (hm : S.length = m) :
    Su P n fr (.call { callee := .builtin .clear, args := #[x], argTypes := #[t] }) ty w (fun w' => Blk w' b e (intC (List.replicate m 0)) ∧ Chg (· = b) w w') := fun a o' ho hty ha => by
  cases m with
  | zero =>
    have hS : S = [] := List.eq_nil_of_length_eq_zero hm
    refine ⟨w, .inr ⟨.tuple #[], ?_⟩, by rw [hS] at hB; exact hB, Chg.refl⟩
    simp [execOp, ho, resolve, invoke, builtin, ha.ev hx, Builtin.clear_, run_underlying hT]
  | succ m =>
    have hst := storeCells_own (P := P) b 0 e (0, 0) (intC (List.replicate (m + 1) 0)) 0 (intC S).toArray w hB (by simp [intC_length, hm]) (by intro u hu; unfold intC at hu; obtain ⟨b, _, rfl⟩ := List.mem_map.1 hu; rfl) (fun p _ h => by simp at h)
    have hz0 : (Builtin.zeroCells (Value.int .i64 0).cells (m + 1)).toList = intC (List.replicate (m + 1) 0) := by
      rw [zeroCells_flat, ← intC_zeros]; rfl
    have heq : ((intC S).toArray.toList.take (0 + 0) ++ intC (List.replicate (m + 1) 0) ++ (intC S).toArray.toList.drop (0 + 0 + (intC (List.replicate (m + 1) 0)).length)).toArray = (intC (List.replicate (m + 1) 0)).toArray := by
      simp [intC_length, hm, List.drop_of_length_le]
    rw [heq] at hst
    refine ⟨_, .inr ⟨.tuple #[], ?_⟩, setRow_heap w b _ _ e (0, 0) hB, ⟨rfl, rfl, rfl, by simp, fun k hk hn => setRow_other w b k _ (fun h => hn h), Nat.le_refl _⟩⟩
    simp [execOp, ho, resolve, invoke, builtin, ha.ev hx, Builtin.clear_, run_underlying hT, hz, hz0, hst]
theorem By.ltB {v : Value} {b : List UInt8} (h : By w v b) (h0 : b ≠ []) : ∀ k, v.ownBlock = some k → k < w.heap.size := by
  obtain ⟨A, m, c, rfl, hl, _, _, hA, _⟩ := h
  intro k hk
  have : 0 < b.length := List.length_pos_iff.2 h0
  obtain ⟨a, rfl, hm⟩ := hA (by omega)
  have := hm.lt (by cases b with | nil => exact absurd rfl h0 | cons x r => simp [bytesC])
  simp [Value.ownBlock] at hk
  omega
/-! ## Method values -/
theorem Y.makeFuncM {f : Fn} {xs : List Operand} {vs : List Value} (hx : evs fr xs = some vs) : Yw P n fr (.makeFunc f xs.toArray #[]) ty w (.func f vs.toArray #[]) w := fun b o' ho _ ha => by
  have := ha.evs hx
  simp [execOp, ho, Instr.makeFunc, this]
/-- A call of a method value that lies in a slot. -/
theorem WL.callM {ops : Array Oper} {rest : List Oper} {dst : Option Nat} {t : Nat} {f : FuncId} {args : List Operand} {tys : Array TypeId} {pos : String} {aft : Array Edge} {vs fst : List Value} {fn : Func}
    {R : Value → World → Prop} (ht : fr.get t = some (.func (.func f) fst.toArray #[]))
    (hf : P.funcs[f]? = some fn) (hb : fn.body.isNone = false) (hn : (fn.name == "runtime.NumGoroutine") = false)
    (he : evs fr args = some vs) (hC : Calls P f (fst ++ vs).toArray w (Ret R)) (hd : ∀ d, dst = some d → d < n.1)
    (h : ∀ v w', R v w' → WL P ops n Φ rest (match dst with | some d => (d, v) :: fr | none => fr) w') :
    WL P ops n Φ (⟨dst, .call { callee := .value (.tmp t), args := args.toArray, argTypes := tys }, ty, pos, aft, none⟩ :: rest) fr w := fun a ha =>
  wpList_plain rfl fun K hK => by
    have hrun : (execOp a.eval ⟨dst, .call { callee := .value (.tmp t), args := args.toArray, argTypes := tys }, ty, pos, aft, none⟩).run P w = .ok (.enter f (fst ++ vs).toArray) w := by
      have h1 := ha.evs he
      have h2 : a.eval (.tmp t) = .func (.func f) fst.toArray #[] := ha.ev (x := .tmp t) ht
      simp [execOp, resolve, invoke, Deferred.ofValue, h2, h1, run_callFunc hf hb hn]
    unfold Oper.wp
    rw [hrun]
    refine hC.mono fun e w' hr => ?_
    cases e with
    | returned v =>
      refine hK _ _ (h v w' hr _ ?_)
      cases dst with
      | none => exact ha
      | some d => exact ha.put (hd d rfl) v
    | panicked ch => exact hr.elim
    | outgrown => exact hr.elim
end
end Go.Fw
