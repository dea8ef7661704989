/- Several texts as one: Bo, Ia, Md, Qk, Qr. -/
import Derived.Test.YtmndofgagngcgaaG2
import Derived.Test.YtmndofgagngcgaaG3
import Derived.Laws.MakeOwn
import Derived.Test.YtmndofgagngcgaaTy
import Derived.DeepKeys3
import Derived.Test.YtmndofgagngcgaaG4
set_option linter.unusedSimpArgs false
set_option linter.unusedVariables false
/- Slices of bools of our own: made, read, written, cleared. No condition. -/
namespace Go.Fw
open Go.RowKit
def boolC (S : List Bool) : List Value := S.map Value.bool
theorem boolC_length (S : List Bool) : (boolC S).length = S.length := by simp [boolC]
theorem one_boolC {S : List Bool} : ∀ u ∈ boolC S, u.oneCell' = true := by
  intro u hu
  obtain ⟨b, _, rfl⟩ := List.mem_map.1 hu
  rfl
theorem boolC_split {S : List Bool} {i : Nat} {c : Bool} (v : Bool) (h : S[i]? = some c) : boolC S = boolC (S.take i) ++ [.bool c] ++ boolC (S.drop (i + 1)) ∧ boolC (S.set i v) = boolC (S.take i) ++ [.bool v] ++ boolC (S.drop (i + 1)) := by
  obtain ⟨hlt, hc⟩ := List.getElem?_eq_some_iff.1 h
  have e1 : S = S.take i ++ [c] ++ S.drop (i + 1) := by
    conv => lhs; rw [← List.take_append_drop i S, List.drop_eq_getElem_cons hlt, hc]
    simp
  have e2 : S.set i v = S.take i ++ [v] ++ S.drop (i + 1) := by
    rw [List.set_eq_take_append_cons_drop, if_pos hlt]
    simp
  constructor
  · conv => lhs; rw [e1]
    simp [boolC]
  · rw [e2]; simp [boolC]
section
variable {P : Program} {n : NN} {Φ : Exit → Fr → World → Prop} {fr : Fr} {w : World} {ty : TypeId} {e : TypeId} {b : Nat} {S : List Bool}
theorem Blk.bcell (h : Blk w b e (boolC S)) {i : Nat} {v : Bool} (hi : S[i]? = some v) : w.cell? ((⟨b, 0, none⟩ : Addr).add (i * 1)) = some (.bool v) := by
  rw [Nat.mul_one]
  exact h.mem.cell i (by rw [boolC, List.getElem?_map, hi]; rfl)
theorem WL.storeB {ops : Array Oper} {rest : List Oper} {t : TypeId} {x y : Operand} {pos : String} {aft : Array Edge} {v c : Bool} {i : Nat} {A : Addr}
    (hx : ev fr x = some (.pointer (some A))) (hA : A = (⟨b, 0, none⟩ : Addr).add (i * 1)) (hy : ev fr y = some (.bool v)) (hS : (P.info? t).map (·.size) = some 1) (hB : Blk w b e (boolC S)) (hi : S[i]? = some c)
    (h : ∀ w', Chg (· = b) w w' → Blk w' b e (boolC (S.set i v)) → WL P ops n Φ rest fr w') : WL P ops n Φ (⟨none, .store t x y, ty, pos, aft, none⟩ :: rest) fr w := by
  obtain ⟨e1, e2⟩ := boolC_split v hi
  have hlt := (List.getElem?_eq_some_iff.1 hi).1
  refine WL.store (g := b) (pre := boolC (S.take i)) (old := [.bool c]) (post := boolC (S.drop (i + 1))) (new := [.bool v]) hx ?_ hy rfl hS (e1 ▸ hB) rfl (one1 rfl) fun w' hc hB' => ?_
  · rw [hA, Nat.mul_one, add_zero', boolC_length, List.length_take, Nat.min_eq_left (by omega)]
  · exact h w' hc (e2 ▸ hB')
theorem St.makeB {t : TypeId} {x y : Operand} {k k' : IntKind} {m : Nat} {i : TypeInfo} (hT : P.underlying t = some (.slice e)) (hi : P.info? e = some i) (hz : i.zero = some (.bool false)) (h1 : i.size = 1) (hb : i.bytes = 1)
    (hx : ev fr x = some (.int k (m : Int))) (hy : ev fr y = some (.int k' (m : Int))) (hm : m ≤ 281474976710656) :
    St P n fr (.makeSlice t x y) ty w (fun v w' => ∃ g, v = .slice (some ⟨g, 0, none⟩) m m ∧ w.heap.size ≤ g ∧ Blk w' g e (boolC (List.replicate m false)) ∧ Ext w w') := fun a o' ho hty ha => by
  have hr := run_make (P := P) w t e i (.bool false) hT hi hz k k' (m : Int) (m : Int) (by omega) (Int.le_refl _) (by rw [hb]; omega) (by omega)
  simp only [Int.toNat_natCast, h1, Nat.mul_one] at hr
  refine ⟨_, w.alloc (.cells (madeCells (Value.bool false).cells m) e), ?_, w.heap.size, rfl, Nat.le_refl _, ?_, Chg.alloc _⟩
  · simp only [execOp, ho, ha.ev hx, ha.ev hy, Sem.run_bind]
    rw [hr]; rfl
  · have e0 : madeCells (Value.bool false).cells m = (boolC (List.replicate m false)).toArray := by
      unfold madeCells
      apply Array.ext_getElem?
      intro j
      simp only [boolC, List.map_replicate, List.getElem?_toArray, Array.getElem?_map, List.getElem?_replicate]
      have hc : (Value.bool false).cells = #[.bool false] := rfl
      rw [hc]
      by_cases hj : j < m
      · simp [hj, Array.getElem?_range, Nat.mod_one]
      · simp [hj, Array.getElem?_range]
    rw [e0]
    exact Blk.new w e _
/-- A call of a closure that lies in a slot. -/
theorem WL.callV {ops : Array Oper} {rest : List Oper} {dst : Option Nat} {t : Nat} {f : FuncId} {args : List Operand} {tys : Array TypeId} {pos : String} {aft : Array Edge} {vs cap : List Value} {fn : Func}
    {R : Value → World → Prop} (ht : fr.get t = some (.func (.func f) #[] cap.toArray))
    (hf : P.funcs[f]? = some fn) (hb : fn.body.isNone = false) (hn : (fn.name == "runtime.NumGoroutine") = false)
    (he : evs fr args = some vs) (hC : Calls P f (vs ++ cap).toArray w (Ret R)) (hd : ∀ d, dst = some d → d < n.1)
    (h : ∀ v w', R v w' → WL P ops n Φ rest (match dst with | some d => (d, v) :: fr | none => fr) w') :
    WL P ops n Φ (⟨dst, .call { callee := .value (.tmp t), args := args.toArray, argTypes := tys }, ty, pos, aft, none⟩ :: rest) fr w := fun a ha =>
  wpList_plain rfl fun K hK => by
    have hrun : (execOp a.eval ⟨dst, .call { callee := .value (.tmp t), args := args.toArray, argTypes := tys }, ty, pos, aft, none⟩).run P w = .ok (.enter f (vs ++ cap).toArray) w := by
      have h1 := ha.evs he
      have h2 : a.eval (.tmp t) = .func (.func f) #[] cap.toArray := ha.ev (x := .tmp t) ht
      simp [execOp, resolve, invoke, Deferred.ofValue, h2, h1, run_callFunc hf hb hn]
    unfold Oper.wp
    rw [hrun]
    refine hC.mono fun e w' hr => ?_
    cases e with
    | returned v =>
      refine hK _ _ (h v w' hr _ ?_)
      cases dst with
      | none => exact ha
      | some d => exact ha.put (hd d rfl) v
    | panicked ch => exact hr.elim
    | outgrown => exact hr.elim
theorem Su.clearB {t : TypeId} {x : Operand} {m c : Nat} (hT : P.underlying t = some (.slice e)) (hz : ∀ w, (zeroValue e).run P w = .ok (.bool false) w) (hx : ev fr x = some (.slice (some ⟨b, 0, none⟩) m c)) (hB : Blk w b e (boolC S)) (hm : S.length = m) :
    Su P n fr (.call { callee := .builtin .clear, args := #[x], argTypes := #[t] }) ty w (fun w' => Blk w' b e (boolC (List.replicate m false)) ∧ Chg (· = b) w w') := fun a o' ho hty ha => by
  cases m with
  | zero =>
    have hS : S = [] := List.eq_nil_of_length_eq_zero hm
    refine ⟨w, .inr ⟨.tuple #[], ?_⟩, by rw [hS] at hB; exact hB, Chg.refl⟩
    simp [execOp, ho, resolve, invoke, builtin, ha.ev hx, Builtin.clear_, run_underlying hT]
  | succ m =>
    have hst := storeCells_own (P := P) b 0 e (0, 0) (boolC (List.replicate (m + 1) false)) 0 (boolC S).toArray w hB (by simp [boolC_length, hm]) one_boolC (fun p _ h => by simp at h)
    have hz0 : (Builtin.zeroCells (Value.bool false).cells (m + 1)).toList = boolC (List.replicate (m + 1) false) := by
      have hc : (Value.bool false).cells = #[.bool false] := rfl
      rw [hc]
      apply List.ext_getElem?
      intro j
      simp only [Builtin.zeroCells, boolC, List.map_replicate, List.getElem?_replicate, Array.getElem?_toList]
      by_cases hj : j < m + 1
      · simp [hj, Array.getElem?_range, Nat.mod_one]
      · simp [hj, Array.getElem?_range]
    have heq : ((boolC S).toArray.toList.take (0 + 0) ++ boolC (List.replicate (m + 1) false) ++ (boolC S).toArray.toList.drop (0 + 0 + (boolC (List.replicate (m + 1) false)).length)).toArray = (boolC (List.replicate (m + 1) false)).toArray := by
      simp [boolC_length, hm, List.drop_of_length_le]
    rw [heq] at hst
    refine ⟨_, .inr ⟨.tuple #[], ?_⟩, setRow_heap w b _ _ e (0, 0) hB, ⟨rfl, rfl, rfl, by simp, fun k hk hn => setRow_other w b k _ (fun h => hn h), Nat.le_refl _⟩⟩
    simp [execOp, ho, resolve, invoke, builtin, ha.ev hx, Builtin.clear_, run_underlying hT, hz, hz0, hst]
end
end Go.Fw

/- Slices of ints, and of elements of several cells, of our own: made, read, written, cleared; method values. No condition. -/
namespace Go.Fw
open Go.RowKit
theorem range_cells {c : Array Value} : ∀ m : Nat, (List.range (m * c.size)).map (fun i => c[i % c.size]!) = (List.replicate m c.toList).flatten
  | 0 => by simp
  | m + 1 => by
    have ih := range_cells (c := c) m
    rw [Nat.succ_mul, List.range_add, List.map_append, ih, List.replicate_succ', List.flatten_append]
    congr 1
    rw [List.map_map]
    simp only [List.flatten_cons, List.flatten_nil, List.append_nil]
    apply List.ext_getElem?
    intro j
    rw [List.getElem?_map]
    by_cases hj : j < c.size
    · rw [List.getElem?_range hj]
      have e : (m * c.size + j) % c.size = j := by rw [Nat.mul_comm, Nat.mul_add_mod]; exact Nat.mod_eq_of_lt hj
      simp only [Option.map_some, Function.comp_apply, e, Array.getElem?_toList]
      simp [hj]
    · rw [List.getElem?_eq_none (by simpa using hj), List.getElem?_eq_none (by simpa using hj)]
      rfl
theorem madeCells_flat {c : Array Value} (m : Nat) : madeCells c (m * c.size) = ((List.replicate m c.toList).flatten).toArray := by
  unfold madeCells
  rw [← range_cells]
  apply Array.ext'
  simp [Array.toList_range]
theorem zeroCells_flat {c : Array Value} (m : Nat) : (Builtin.zeroCells c m).toList = (List.replicate m c.toList).flatten := by
  unfold Builtin.zeroCells
  rw [← range_cells]
  simp [Array.toList_range]
/-- What make wants to know of an element's type: the zero's cells, the bytes. -/
def MakeInfo (P : Program) (e : TypeId) (zs : List Value) (b : Nat) : Prop := ∃ i z, P.info? e = some i ∧ i.zero = some z ∧ z.cells = zs.toArray ∧ i.size = zs.length ∧ i.bytes = b
section
variable {P : Program} {n : NN} {Φ : Exit → Fr → World → Prop} {fr : Fr} {w : World} {ty : TypeId} {e : TypeId}
theorem St.makeK {t : TypeId} {x y : Operand} {k k' : IntKind} {m b : Nat} {zs : List Value} (hT : P.underlying t = some (.slice e)) (hi : MakeInfo P e zs b)
    (hx : ev fr x = some (.int k (m : Int))) (hy : ev fr y = some (.int k' (m : Int))) (hm : b * m ≤ 281474976710656) (hm2 : m ≤ 9223372036854775807) :
    St P n fr (.makeSlice t x y) ty w (fun v w' => ∃ g, v = .slice (some ⟨g, 0, none⟩) m m ∧ w.heap.size ≤ g ∧ Blk w' g e ((List.replicate m zs).flatten) ∧ Ext w w') := fun a o' ho hty ha => by
  obtain ⟨i, z, hi, hz, hzc, hs, rfl⟩ := hi
  have hr := run_make (P := P) w t e i z hT hi hz k k' (m : Int) (m : Int) (by omega) (Int.le_refl _) (by rw [← Int.natCast_mul]; omega) (by omega)
  simp only [Int.toNat_natCast] at hr
  have hsz : i.size = z.cells.size := by rw [hs, hzc]; simp
  rw [hsz, madeCells_flat, hzc] at hr
  refine ⟨_, w.alloc (.cells ((List.replicate m zs).flatten).toArray e), ?_, w.heap.size, rfl, Nat.le_refl _, Blk.new w e _, Chg.alloc _⟩
  simp only [execOp, ho, ha.ev hx, ha.ev hy, Sem.run_bind]
  rw [hr]; rfl
/-- One cell of a block of our own is written. -/
theorem WL.storeC {ops : Array Oper} {rest : List Oper} {t : TypeId} {x y : Operand} {pos : String} {aft : Array Edge} {v : Value} {cs : List Value} {b i : Nat} {A : Addr}
    (hx : ev fr x = some (.pointer (some A))) (hA : A = (⟨b, 0, none⟩ : Addr).add (i * 1)) (hy : ev fr y = some v) (hv : v.cells = #[v]) (h1 : v.oneCell' = true) (hS : (P.info? t).map (·.size) = some 1) (hB : Blk w b e cs) (hi : i < cs.length)
    (h : ∀ w', Chg (· = b) w w' → Blk w' b e (cs.set i v) → WL P ops n Φ rest fr w') : WL P ops n Φ (⟨none, .store t x y, ty, pos, aft, none⟩ :: rest) fr w := by
  have e1 : cs = cs.take i ++ [cs[i]] ++ cs.drop (i + 1) := by
    conv => lhs; rw [← List.take_append_drop i cs, List.drop_eq_getElem_cons hi]
    simp
  have e2 : cs.set i v = cs.take i ++ [v] ++ cs.drop (i + 1) := by
    rw [List.set_eq_take_append_cons_drop, if_pos hi]; simp
  refine WL.store (g := b) (pre := cs.take i) (old := [cs[i]]) (post := cs.drop (i + 1)) (new := [v]) hx ?_ hy hv hS (e1 ▸ hB) rfl (one1 h1) fun w' hc hB' => ?_
  · rw [hA, Nat.mul_one, add_zero', List.length_take, Nat.min_eq_left (by omega)]
  · exact h w' hc (e2 ▸ hB')
/-- An element of several cells is written. -/
theorem flat_split {α : Type} {enc : α → List Value} {xs : List α} {i : Nat} {y : α} (x : α) (h : xs[i]? = some y) :
    (xs.map enc).flatten = ((xs.take i).map enc).flatten ++ enc y ++ ((xs.drop (i + 1)).map enc).flatten ∧ ((xs.set i x).map enc).flatten = ((xs.take i).map enc).flatten ++ enc x ++ ((xs.drop (i + 1)).map enc).flatten := by
  obtain ⟨hlt, hc⟩ := List.getElem?_eq_some_iff.1 h
  have e1 : xs = xs.take i ++ [y] ++ xs.drop (i + 1) := by
    conv => lhs; rw [← List.take_append_drop i xs, List.drop_eq_getElem_cons hlt, hc]
    simp
  have e2 : xs.set i x = xs.take i ++ [x] ++ xs.drop (i + 1) := by
    rw [List.set_eq_take_append_cons_drop, if_pos hlt]; simp
  constructor
  · conv => lhs; rw [e1]
    simp
  · rw [e2]; simp
theorem WL.storeK {α : Type} {enc : α → List Value} {k : Nat} (he : ∀ x, (enc x).length = k) (h1 : ∀ x, ∀ u ∈ enc x, u.oneCell' = true) {ops : Array Oper} {rest : List Oper} {t : TypeId} {x y : Operand} {pos : String} {aft : Array Edge} {v : α} {val : Value} {c : α} {xs : List α} {b i : Nat} {A : Addr}
    (hx : ev fr x = some (.pointer (some A))) (hA : A = (⟨b, 0, none⟩ : Addr).add (i * k)) (hy : ev fr y = some val) (hv : val.cells = (enc v).toArray) (hS : (P.info? t).map (·.size) = some k) (hB : Blk w b e ((xs.map enc).flatten)) (hi : xs[i]? = some c)
    (h : ∀ w', Chg (· = b) w w' → Blk w' b e (((xs.set i v).map enc).flatten) → WL P ops n Φ rest fr w') : WL P ops n Φ (⟨none, .store t x y, ty, pos, aft, none⟩ :: rest) fr w := by
  obtain ⟨e1, e2⟩ := flat_split (enc := enc) v hi
  have hlt := (List.getElem?_eq_some_iff.1 hi).1
  refine WL.store (g := b) (pre := ((xs.take i).map enc).flatten) (old := enc c) (post := ((xs.drop (i + 1)).map enc).flatten) (new := enc v) hx ?_ hy hv (by rw [hS, he]) (e1 ▸ hB) (by rw [he, he]) (h1 v) fun w' hc hB' => ?_
  · rw [hA, add_zero', flat_length he, List.length_take, Nat.min_eq_left (by omega)]
  · exact h w' hc (e2 ▸ hB')
theorem Blk.kmem {α : Type} {enc : α → List Value} {k : Nat} (he : ∀ x, (enc x).length = k) {xs : List α} {b i : Nat} {x : α} (h : Blk w b e ((xs.map enc).flatten)) (hi : xs[i]? = some x) : Mem w ((⟨b, 0, none⟩ : Addr).add (i * k)) (enc x) :=
  h.mem.sub (i * k) fun j v hv => flat_at he xs i x hi j v hv
/-! ## Ints -/
abbrev intE (m : Nat) : List Value := [.int .i64 (m : Int)]
def intC (S : List Nat) : List Value := S.map fun (m : Nat) => Value.int .i64 (m : Int)
theorem intC_length (S : List Nat) : (intC S).length = S.length := by simp [intC]
theorem Blk.icell {S : List Nat} {b i m : Nat} (h : Blk w b e (intC S)) (hi : S[i]? = some m) : w.cell? ((⟨b, 0, none⟩ : Addr).add (i * 1)) = some (.int .i64 (m : Int)) := by
  rw [Nat.mul_one]
  exact h.mem.cell i (by rw [intC, List.getElem?_map, hi]; rfl)
theorem intC_set (S : List Nat) (i m : Nat) : (intC S).set i (.int .i64 (m : Int)) = intC (S.set i m) := by rw [intC, intC, List.map_set]
theorem intC_zeros (m : Nat) : (List.replicate m [Value.int .i64 0]).flatten = intC (List.replicate m 0) := by
  induction m with
  | zero => rfl
  | succ m ih => rw [List.replicate_succ, List.flatten_cons, ih]; rfl
theorem Su.clearI {t : TypeId} {x : Operand} {m c b : Nat} {S : List Nat} (hT : P.underlying t = some (.slice e)) (hz : ∀ w, (zeroValue e).run P w = .ok (.int .i64 0) w) (hx : ev fr x = some (.slice (some ⟨b, 0, none⟩) m c)) (hB : Blk w b e (intC S)) (hm : S.length = m) :
    Su P n fr (.call { callee := .builtin .clear, args := #[x], argTypes := #[t] }) ty w (fun w' => Blk w' b e (intC (List.replicate m 0)) ∧ Chg (· = b) w w') := fun a o' ho hty ha => by
  cases m with
  | zero =>
    have hS : S = [] := List.eq_nil_of_length_eq_zero hm
    refine ⟨w, .inr ⟨.tuple #[], ?_⟩, by rw [hS] at hB; exact hB, Chg.refl⟩
    simp [execOp, ho, resolve, invoke, builtin, ha.ev hx, Builtin.clear_, run_underlying hT]
  | succ m =>
    have hst := storeCells_own (P := P) b 0 e (0, 0) (intC (List.replicate (m + 1) 0)) 0 (intC S).toArray w hB (by simp [intC_length, hm]) (by intro u hu; unfold intC at hu; obtain ⟨b, _, rfl⟩ := List.mem_map.1 hu; rfl) (fun p _ h => by simp at h)
    have hz0 : (Builtin.zeroCells (Value.int .i64 0).cells (m + 1)).toList = intC (List.replicate (m + 1) 0) := by
      rw [zeroCells_flat, ← intC_zeros]; rfl
    have heq : ((intC S).toArray.toList.take (0 + 0) ++ intC (List.replicate (m + 1) 0) ++ (intC S).toArray.toList.drop (0 + 0 + (intC (List.replicate (m + 1) 0)).length)).toArray = (intC (List.replicate (m + 1) 0)).toArray := by
      simp [intC_length, hm, List.drop_of_length_le]
    rw [heq] at hst
    refine ⟨_, .inr ⟨.tuple #[], ?_⟩, setRow_heap w b _ _ e (0, 0) hB, ⟨rfl, rfl, rfl, by simp, fun k hk hn => setRow_other w b k _ (fun h => hn h), Nat.le_refl _⟩⟩
    simp [execOp, ho, resolve, invoke, builtin, ha.ev hx, Builtin.clear_, run_underlying hT, hz, hz0, hst]
theorem By.ltB {v : Value} {b : List UInt8} (h : By w v b) (h0 : b ≠ []) : ∀ k, v.ownBlock = some k → k < w.heap.size := by
  obtain ⟨A, m, c, rfl, hl, _, _, hA, _⟩ := h
  intro k hk
  have : 0 < b.length := List.length_pos_iff.2 h0
  obtain ⟨a, rfl, hm⟩ := hA (by omega)
  have := hm.lt (by cases b with | nil => exact absurd rfl h0 | cons x r => simp [bytesC])
  simp [Value.ownBlock] at hk
  omega
/-! ## Method values -/
theorem Y.makeFuncM {f : Fn} {xs : List Operand} {vs : List Value} (hx : evs fr xs = some vs) : Yw P n fr (.makeFunc f xs.toArray #[]) ty w (.func f vs.toArray #[]) w := fun b o' ho _ ha => by
  have := ha.evs hx
  simp [execOp, ho, Instr.makeFunc, this]
/-- A call of a method value that lies in a slot. -/
theorem WL.callM {ops : Array Oper} {rest : List Oper} {dst : Option Nat} {t : Nat} {f : FuncId} {args : List Operand} {tys : Array TypeId} {pos : String} {aft : Array Edge} {vs fst : List Value} {fn : Func}
    {R : Value → World → Prop} (ht : fr.get t = some (.func (.func f) fst.toArray #[]))
    (hf : P.funcs[f]? = some fn) (hb : fn.body.isNone = false) (hn : (fn.name == "runtime.NumGoroutine") = false)
    (he : evs fr args = some vs) (hC : Calls P f (fst ++ vs).toArray w (Ret R)) (hd : ∀ d, dst = some d → d < n.1)
    (h : ∀ v w', R v w' → WL P ops n Φ rest (match dst with | some d => (d, v) :: fr | none => fr) w') :
    WL P ops n Φ (⟨dst, .call { callee := .value (.tmp t), args := args.toArray, argTypes := tys }, ty, pos, aft, none⟩ :: rest) fr w := fun a ha =>
  wpList_plain rfl fun K hK => by
    have hrun : (execOp a.eval ⟨dst, .call { callee := .value (.tmp t), args := args.toArray, argTypes := tys }, ty, pos, aft, none⟩).run P w = .ok (.enter f (fst ++ vs).toArray) w := by
      have h1 := ha.evs he
      have h2 : a.eval (.tmp t) = .func (.func f) fst.toArray #[] := ha.ev (x := .tmp t) ht
      simp [execOp, resolve, invoke, Deferred.ofValue, h2, h1, run_callFunc hf hb hn]
    unfold Oper.wp
    rw [hrun]
    refine hC.mono fun e w' hr => ?_
    cases e with
    | returned v =>
      refine hK _ _ (h v w' hr _ ?_)
      cases dst with
      | none => exact ha
      | some d => exact ha.put (hd d rfl) v
    | panicked ch => exact hr.elim
    | outgrown => exact hr.elim
end
end Go.Fw

/- Digests as a map's keys. No condition. -/
namespace Go.Fw
open Go.RowKit
theorem mapM_some {α β : Type} {f : α → Option β} : ∀ {l : List α}, (∀ x ∈ l, ∃ y, f x = some y) → ∃ ys, l.mapM f = some ys
  | [], _ => ⟨[], rfl⟩
  | x :: r, h => by
    obtain ⟨y, hy⟩ := h x (by simp)
    obtain ⟨ys, hys⟩ := mapM_some (l := r) fun z hz => h z (by simp [hz])
    exact ⟨y :: ys, by simp [List.mapM_cons, hy, hys]⟩
theorem sameBits_self {n : Nat} : ∀ {cs : List Value}, (∀ u ∈ cs, Instr.sameBits n u u = true) → Instr.sameBits (n + 1) (.agg cs.toArray) (.agg cs.toArray) = true := by
  intro cs h
  simp only [Instr.sameBits, beq_self_eq_true, Bool.true_and]
  rw [List.all_eq_true]
  rintro ⟨x, y⟩ hp
  have hxy : x = y ∧ x ∈ cs := by
    obtain ⟨i, hi⟩ := List.mem_iff_getElem?.1 hp
    rw [List.getElem?_zip_eq_some] at hi
    obtain ⟨h1, h2⟩ := hi
    exact ⟨Option.some.inj (h1.symm.trans h2), List.mem_of_getElem? h1⟩
  obtain ⟨rfl, hx⟩ := hxy
  exact h x hx
end Go.Fw
namespace Go.Proofs.Ytmndofgagngcgaa
open Go.RowKit Go.Fw
theorem cells_u8 : Try.prog.cellsOf 5 = 1 := by kernel_rfl
theorem cells_dig : Try.prog.cellsOf 50 = 32 := by kernel_rfl
theorem keyLits_u8 (D : Nat) (b : UInt8) : Try.prog.keyLits (D + 1) 5 [bc b] = some [.int .u8 (b.toNat : Int)] := by
  have hw : (Lit.int .u8 (b.toNat : Int)).wf = true := by
    have := b.toNat_lt
    simp only [Lit.wf, IntKind.min, IntKind.max, IntKind.bits, IntKind.signed]
    simp
    omega
  simp only [Program.keyLits, Try.underlying5, bc, hw]
  simp
theorem keyLits_dig (D : Nat) (d : Dig) : ∃ la, Try.prog.keyLits (D + 2) 50 (digC d) = some la := by
  obtain ⟨ys, hys⟩ := mapM_some (l := List.range 32) (f := fun i => Try.prog.keyLits (D + 1) 5 (((digC d).drop (i * 1)).take 1)) (by
    intro i hi
    rw [List.mem_range] at hi
    have hd := d.2
    have : ((digC d).drop (i * 1)).take 1 = [bc (d.1[i]'(by omega))] := by
      rw [Nat.mul_one, digC, bytesC, ← List.map_drop, List.drop_eq_getElem_cons (by omega)]
      rfl
    rw [this]
    exact ⟨_, keyLits_u8 D _⟩)
  refine ⟨ys.flatten, ?_⟩
  have e : Try.prog.keyLits ((D + 1) + 1) 50 (digC d) = ((List.range 32).mapM fun i => Try.prog.keyLits (D + 1) 5 (((digC d).drop (i * 1)).take 1)).map List.flatten := by
    conv => lhs; unfold Program.keyLits
    simp only [Try.underlying50, cells_dig, cells_u8, digC_length, if_true]
  rw [show D + 2 = (D + 1) + 1 from rfl, e, hys]
  rfl
theorem keyDig : KeyEq Try.prog 50 (fun d : Dig => digV d) where
  eq w a b := eqIn_dig 9998 a b w
  check w em a := by
    obtain ⟨la, hla⟩ := keyLits_dig 3 a
    exact run_checkKey_deep em 9997 3 50 (by kernel_rfl) w 5 (digV a) la (by simp only [Value.formed, Try.underlying50, cells_dig]; simp [digC_length]) (by simpa [Value.cells] using hla)
  wide := by rw [Try.underlying50]
  same a := sameBits_self (n := 9999) fun u hu => by
    simp only [digC, bytesC, List.mem_map] at hu
    obtain ⟨b, _, rfl⟩ := hu
    simp [bc, Instr.sameBits]
end Go.Proofs.Ytmndofgagngcgaa

/- Building structs out of parts of several cells; what the api's references are built of. No condition. -/
namespace Go.Fw
open Go.RowKit Go.Fu
def nodeC (x : El) (lv rv : Value) : List Value := refC x.name ++ [bc x.byte, .bool x.gone, lv, rv]
theorem nodeC_length (x : El) (lv rv : Value) : (nodeC x lv rv).length = 38 := by simp [nodeC, refC_length]
theorem one_nodeC {x : El} {lv rv : Value} (hl : lv.oneCell' = true) (hr : rv.oneCell' = true) : ∀ u ∈ nodeC x lv rv, u.oneCell' = true := by
  intro u hu
  simp only [nodeC, List.mem_append, List.mem_cons, List.not_mem_nil, or_false] at hu
  rcases hu with hu | rfl | rfl | rfl | rfl
  · exact one_refC u hu
  · rfl
  · rfl
  · exact hl
  · exact hr
def side (x : El) (s : Bool) : List Nat := cond s x.left x.right
theorem Sl.get {α : Type} {w : World} {enc : α → List Value} {k : Nat} {A : Option Addr} {m c : Nat} {xs : List α} (h : Sl w enc k (.slice A m c) xs) {i : Nat} {x : α} (hx : xs[i]? = some x) : ∃ a, A = some a ∧ Mem w (a.add (i * k)) (enc x) := by
  obtain ⟨A', m', c', e, _, _, _, hls⟩ := h
  injection e with e1
  subst e1
  exact hls i x hx
theorem Own.kind {w : World} {e : TypeId} {k : Nat} {v : Value} {xs : List Value} (h : Own w e k v xs) {g : Nat} (hg : v.ownBlock = some g) : ∃ cs fz, w.heap[g]? = some (.cells cs e fz) := by
  rcases h with ⟨rfl, _⟩ | ⟨g', n, cap, rest, fz, rfl, hh, _⟩
  · simp [Value.ownBlock] at hg
  · simp [Value.ownBlock] at hg; subst hg; exact ⟨_, _, hh⟩
theorem fold_set (off : Nat) : ∀ (new : List Value) (k : Nat) (pre old post : List Value), old.length = new.length → pre.length = off + k →
    (new.zipIdx k).foldl (fun (cs : Array Value) p => cs.setIfInBounds (off + p.2) p.1) (pre ++ old ++ post).toArray = (pre ++ new ++ post).toArray
  | [], k, pre, old, post, h, _ => by
    have : old = [] := List.length_eq_zero_iff.1 h
    subst this; rfl
  | v :: new, k, pre, [], post, h, _ => by simp at h
  | v :: new, k, pre, o :: old, post, h, hp => by
    rw [List.zipIdx_cons, List.foldl_cons]
    have e1 : (pre ++ (o :: old) ++ post).toArray.setIfInBounds (off + k) v = ((pre ++ [v]) ++ old ++ post).toArray := by
      rw [List.setIfInBounds_toArray, ← hp]; simp
    show List.foldl _ ((pre ++ (o :: old) ++ post).toArray.setIfInBounds (off + k) v) _ = _
    rw [e1, fold_set off new (k + 1) (pre ++ [v]) old post (by simpa using h) (by simp [hp]; omega)]
    simp
theorem fill_step {place : Nat → Option (Nat × Nat)} {i off : Nat} {v : Value} {rest : List (Nat × Value)} (pre old post new : List Value) (hp : place i = some (off, new.length)) (hv : v.cells = new.toArray) (hl : old.length = new.length) (ho : pre.length = off) :
    Instr.fill place (pre ++ old ++ post).toArray ((i, v) :: rest) = Instr.fill place (pre ++ new ++ post).toArray rest := by
  rw [Instr.fill, hp, hv]
  simp only
  rw [if_neg (by simp; omega)]
  congr 1
  have := fold_set off new 0 pre old post hl (by omega)
  rw [← this, ← Array.foldl_toList, Array.toList_zipIdx]
theorem Value.cells_agg (cs : List Value) : (Value.agg cs.toArray).cells = cs.toArray := rfl
end Go.Fw
namespace Go.Proofs.Ytmndofgagngcgaa
open Go.RowKit Go.Fw
theorem built_ref (parts : List (Nat × Value)) : Try.prog.built 61 parts = Instr.fill (fun i => #[(0, 1), (1, 32), (33, 1)][i]?) (refC RefD.zero).toArray parts := by kernel_rfl
theorem build_ref2 (d : Dig) (n : Int) (w : World) : (Instr.build 61 [(1, digV d), (2, Value.int .i64 n)].toArray).run Try.prog w = .ok (refV ⟨false, d, n⟩) w := run_build w _ _ _ (by
  show Try.prog.built _ [(1, digV d), (2, Value.int .i64 n)] = _
  rw [built_ref]
  have e0 : refC RefD.zero = [Value.bool false] ++ digC Dig.zero ++ [.int .i64 0] := rfl
  rw [e0, fill_step [Value.bool false] (digC Dig.zero) [.int .i64 0] (digC d) (by rw [digC_length]; rfl) rfl (by rw [digC_length, digC_length]) rfl]
  have e1 : [Value.bool false] ++ digC d ++ [.int .i64 0] = ([Value.bool false] ++ digC d) ++ [.int .i64 0] ++ [] := by simp
  rw [e1, fill_step ([Value.bool false] ++ digC d) [.int .i64 0] [] [.int .i64 n] rfl rfl rfl (by rw [List.length_append, digC_length]; rfl), Instr.fill]
  simp [refV, refC])
end Go.Proofs.Ytmndofgagngcgaa

/- The document's trees in memory. No condition. -/
namespace Go.Fw
open Go.Fu
section
variable {w : World} {a : Addr} {x : El} {lv rv : Value} (h : Mem w a (nodeC x lv rv))
include h
theorem Mem.recensionref08Elem0 : Mem w (a.add 0) (refC x.name) := h.sub 0 fun j v hj => by
  have hlt : j < (refC x.name).length := (List.getElem?_eq_some_iff.1 hj).1
  rw [Nat.zero_add, nodeC, List.getElem?_append_left hlt]; exact hj
theorem Mem.recensionref08Elem1 : w.cell? (a.add 34) = some (.int .u8 (x.byte.toNat : Int)) := h.cell 34 (by rw [nodeC, List.getElem?_append_right (by rw [refC_length]; omega), refC_length]; rfl)
theorem Mem.recensionref08Elem2 : w.cell? (a.add 35) = some (.bool x.gone) := h.cell 35 (by rw [nodeC, List.getElem?_append_right (by rw [refC_length]; omega), refC_length]; rfl)
theorem Mem.recensionref08Elem3 : w.cell? (a.add 36) = some lv := h.cell 36 (by rw [nodeC, List.getElem?_append_right (by rw [refC_length]; omega), refC_length]; rfl)
theorem Mem.recensionref08Elem4 : w.cell? (a.add 37) = some rv := h.cell 37 (by rw [nodeC, List.getElem?_append_right (by rw [refC_length]; omega), refC_length]; rfl)
end
section
variable {w : World} {a : Addr} {u v : Value} (h : Mem w a [u, v])
include h
theorem Mem.recensionref08Tree0 : w.cell? (a.add 0) = some u := h.cell 0 rfl
theorem Mem.recensionref08Tree1 : w.cell? (a.add 1) = some v := h.cell 1 rfl
end
/-- An element as it lies: its two slices. -/
structure Rn where
  el : El
  lv : Value
  rv : Value
def Rn.sv (x : Rn) (s : Bool) : Value := cond s x.lv x.rv
def rC (x : Rn) : List Value := nodeC x.el x.lv x.rv
theorem rC_length (x : Rn) : (rC x).length = 38 := nodeC_length _ _ _
abbrev rels (rs : List Rn) : List El := rs.map Rn.el
end Go.Fw
namespace Go.Proofs.Ytmndofgagngcgaa
open Go.RowKit Go.Fw Go.Fu
abbrev TR8 : TypeId := 91
abbrev TE8 : TypeId := 87
abbrev TD8 : TypeId := 50
/-- The document's tree at g has these elements. -/
structure RtAt (w : World) (g : Nat) (ad : List Dig) (rs : List Rn) (av ev_ : Value) : Prop where
  blk : Blk w g TR8 [av, ev_]
  ads : Own w TD8 32 av (flatD ad)
  es : Own w TE8 38 ev_ ((rs.map rC).flatten)
  kids : ∀ x ∈ rs, ∀ s, Own w 3 1 (x.sv s) (intC (side x.el s))
def Rp (g : Nat) (rs : List Rn) (av ev_ : Value) (k : Nat) : Prop := k = g ∨ av.ownBlock = some k ∨ ev_.ownBlock = some k ∨ ∃ x ∈ rs, ∃ s, (x.sv s).ownBlock = some k
section
variable {w w' : World} {g : Nat} {ad : List Dig} {rs : List Rn} {av ev_ : Value} {S : Nat → Prop}
theorem RtAt.lt (h : RtAt w g ad rs av ev_) {k : Nat} (hk : Rp g rs av ev_ k) : k < w.heap.size := by
  rcases hk with rfl | hk | hk | ⟨x, hx, s, hk⟩
  · exact h.blk.lt
  · exact h.ads.lt k hk
  · exact h.es.lt k hk
  · exact (h.kids x hx s).lt k hk
theorem RtAt.chg (h : RtAt w g ad rs av ev_) (hc : Chg S w w') (hs : ∀ k, Rp g rs av ev_ k → ¬ S k) : RtAt w' g ad rs av ev_ where
  blk := h.blk.chg hc (hs g (.inl rfl))
  ads := h.ads.chg hc fun k hk => hs k (.inr (.inl hk))
  es := h.es.chg hc fun k hk => hs k (.inr (.inr (.inl hk)))
  kids x hx s := (h.kids x hx s).chg hc fun k hk => hs k (.inr (.inr (.inr ⟨x, hx, s, hk⟩)))
theorem RtAt.ext (h : RtAt w g ad rs av ev_) (hc : Ext w w') : RtAt w' g ad rs av ev_ := h.chg hc fun _ _ f => f
theorem RtAt.far (h : RtAt w g ad rs av ev_) (hc : Chg S w w') (hs : ∀ k, S k → w.heap.size ≤ k) : RtAt w' g ad rs av ev_ := h.chg hc fun k hk hS => by have := hs k hS; have := h.lt hk; omega
theorem RtAt.ne (h : RtAt w g ad rs av ev_) : (∀ k, av.ownBlock = some k → k ≠ g ∧ ev_.ownBlock ≠ some k) ∧ (∀ k, ev_.ownBlock = some k → k ≠ g) ∧ ∀ x ∈ rs, ∀ s k, (x.sv s).ownBlock = some k → k ≠ g ∧ av.ownBlock ≠ some k ∧ ev_.ownBlock ≠ some k := by
  have hb := h.blk
  unfold Blk at hb
  have kd : ∀ {k : Nat} {c1 c2 : Array Value} {t1 t2 : TypeId} {f1 f2 : Nat × Nat}, w.heap[k]? = some (.cells c1 t1 f1) → w.heap[k]? = some (.cells c2 t2 f2) → t1 = t2 := fun h1 h2 => by
    rw [h1] at h2; injection h2 with h2; injection h2
  refine ⟨fun k hk => ⟨?_, fun hk2 => ?_⟩, fun k hk => ?_, fun x hx s k hk => ⟨?_, fun hk2 => ?_, fun hk2 => ?_⟩⟩
  · rintro rfl
    obtain ⟨_, _, h1⟩ := h.ads.kind hk
    exact absurd (kd h1 hb) (by decide)
  · obtain ⟨_, _, h1⟩ := h.ads.kind hk
    obtain ⟨_, _, h2⟩ := h.es.kind hk2
    exact absurd (kd h1 h2) (by decide)
  · rintro rfl
    obtain ⟨_, _, h1⟩ := h.es.kind hk
    exact absurd (kd h1 hb) (by decide)
  · rintro rfl
    obtain ⟨_, _, h1⟩ := (h.kids x hx s).kind hk
    exact absurd (kd h1 hb) (by decide)
  · obtain ⟨_, _, h1⟩ := (h.kids x hx s).kind hk
    obtain ⟨_, _, h2⟩ := h.ads.kind hk2
    exact absurd (kd h1 h2) (by decide)
  · obtain ⟨_, _, h1⟩ := (h.kids x hx s).kind hk
    obtain ⟨_, _, h2⟩ := h.es.kind hk2
    exact absurd (kd h1 h2) (by decide)
theorem RtAt.sl (h : RtAt w g ad rs av ev_) : Sl w rC 38 ev_ rs := h.es.sl rC_length (by decide)
theorem RtAt.kid (h : RtAt w g ad rs av ev_) {x : Rn} (hx : x ∈ rs) (s : Bool) : Sl w (fun m : Nat => [Value.int .i64 (m : Int)]) 1 (x.sv s) (side x.el s) := by
  have e : intC (side x.el s) = ((side x.el s).map fun m : Nat => [Value.int .i64 (m : Int)]).flatten := by
    unfold intC
    induction side x.el s with
    | nil => rfl
    | cons a r ih => simp only [List.map_cons, List.flatten_cons, ih]; rfl
  have := h.kids x hx s
  rw [e] at this
  exact this.sl (fun _ => rfl) (by decide)
end
theorem sz0_recensionref08Elem : (Try.prog.info? TE8).map (·.size) = some 38 := by kernel_rfl
theorem sz_recensionref08Elem (x : El) (lv rv : Value) : (Try.prog.info? TE8).map (·.size) = some (nodeC x lv rv).length := by rw [nodeC_length]; exact sz0_recensionref08Elem
theorem sz_sInt : (Try.prog.info? 84).map (·.size) = some 1 := by kernel_rfl
theorem fo_recensionref08Tree0 : FieldOff Try.prog TR8 0 0 := ⟨_, _, 1, Try.underlying91, rfl, sz_sDig, by decide, rfl⟩
theorem fo_recensionref08Tree1 : FieldOff Try.prog TR8 1 1 := ⟨_, _, 1, Try.underlying91, rfl, by kernel_rfl, by decide, rfl⟩
theorem fo_recensionref08Elem0 : FieldOff Try.prog TE8 0 0 := ⟨_, _, 34, Try.underlying87, rfl, sz_ref, by decide, rfl⟩
theorem fo_recensionref08Elem1 : FieldOff Try.prog TE8 1 34 := ⟨_, _, 1, Try.underlying87, rfl, sz_uint8, by decide, rfl⟩
theorem fo_recensionref08Elem2 : FieldOff Try.prog TE8 2 35 := ⟨_, _, 1, Try.underlying87, rfl, sz_bool, by decide, rfl⟩
theorem fo_recensionref08Elem3 : FieldOff Try.prog TE8 3 36 := ⟨_, _, 1, Try.underlying87, rfl, sz_sInt, by decide, rfl⟩
theorem fo_recensionref08Elem4 : FieldOff Try.prog TE8 4 37 := ⟨_, _, 1, Try.underlying87, rfl, sz_sInt, by decide, rfl⟩
theorem built_elem (parts : List (Nat × Value)) : Try.prog.built TE8 parts = Instr.fill (fun i => #[(0, 34), (34, 1), (35, 1), (36, 1), (37, 1)][i]?) (nodeC ⟨RefD.zero, 0, false, [], []⟩ (.slice none 0 0) (.slice none 0 0)).toArray parts := by kernel_rfl
theorem build_elem0 (w : World) : (Instr.build TE8 [(2, Value.bool true)].toArray).run Try.prog w = .ok (.agg (nodeC El.root (.slice none 0 0) (.slice none 0 0)).toArray) w := run_build w _ _ _ (by kernel_rfl)
theorem build_elem (r : RefD) (b : UInt8) (w : World) : (Instr.build TE8 [(0, refV r), (1, Value.int .u8 (b.toNat : Int))].toArray).run Try.prog w = .ok (.agg (nodeC ⟨r, b, false, [], []⟩ (.slice none 0 0) (.slice none 0 0)).toArray) w := run_build w _ _ _ (by
  show Try.prog.built _ [(0, refV r), (1, Value.int .u8 (b.toNat : Int))] = _
  rw [built_elem]
  have e0 : nodeC ⟨RefD.zero, 0, false, [], []⟩ (.slice none 0 0) (.slice none 0 0) = [] ++ refC RefD.zero ++ [bc 0, .bool false, .slice none 0 0, .slice none 0 0] := rfl
  rw [e0, fill_step [] (refC RefD.zero) [bc 0, .bool false, .slice none 0 0, .slice none 0 0] (refC r) (by rw [refC_length]; rfl) rfl (by rw [refC_length, refC_length]) rfl]
  have e1 : [] ++ refC r ++ [bc 0, .bool false, .slice none 0 0, .slice none 0 0] = refC r ++ [bc 0] ++ [.bool false, .slice none 0 0, .slice none 0 0] := by simp
  rw [e1, fill_step (refC r) [bc 0] [.bool false, .slice none 0 0, .slice none 0 0] [.int .u8 (b.toNat : Int)] rfl rfl rfl (refC_length r), Instr.fill]
  simp [nodeC, bc])
theorem build_tree8 (u : Value) (h : u.cells = #[u]) (w : World) : (Instr.build TR8 [(1, u)].toArray).run Try.prog w = .ok (.agg [.slice none 0 0, u].toArray) w := run_build w _ _ _ (by
  have hb : ∀ parts, Try.prog.built TR8 parts = Instr.fill (fun i => #[(0, 1), (1, 1)][i]?) [Value.slice none 0 0, .slice none 0 0].toArray parts := fun parts => by kernel_rfl
  show Try.prog.built _ [(1, u)] = _
  rw [hb]
  have := fill_step (place := fun i => #[(0, 1), (1, 1)][i]?) (i := 1) (off := 1) (v := u) (rest := []) [Value.slice none 0 0] [.slice none 0 0] [] [u] rfl (by rw [h]) rfl rfl
  exact this)
theorem build_tree8a (u : Value) (h : u.cells = #[u]) (w : World) : (Instr.build TR8 [(0, u)].toArray).run Try.prog w = .ok (.agg [u, .slice none 0 0].toArray) w := run_build w _ _ _ (by
  have hb : ∀ parts, Try.prog.built TR8 parts = Instr.fill (fun i => #[(0, 1), (1, 1)][i]?) [Value.slice none 0 0, .slice none 0 0].toArray parts := fun parts => by kernel_rfl
  show Try.prog.built _ [(0, u)] = _
  rw [hb]
  have := fill_step (place := fun i => #[(0, 1), (1, 1)][i]?) (i := 0) (off := 0) (v := u) (rest := []) [] [Value.slice none 0 0] [.slice none 0 0] [u] rfl (by rw [h]) rfl rfl
  exact this)
theorem ai_elem : AppInfo Try.prog TE8 38 104 := by
  have h : (Try.prog.info? TE8).map (fun i => (i.size, i.bytes, i.zero)) = some (38, 104, some (.agg (nodeC ⟨RefD.zero, 0, false, [], []⟩ (.slice none 0 0) (.slice none 0 0)).toArray)) := by kernel_rfl
  obtain ⟨i, hi, h⟩ := Option.map_eq_some_iff.1 h
  injection h with h1 h2
  injection h2 with h2 h3
  exact ⟨i, _, hi, h3, h1, by show (nodeC _ _ _).toArray.size = 38; simp [nodeC_length], h2, by decide, by decide⟩
theorem bs1_elem (x : Rn) (w : World) : (Instr.buildSlice 89 1 [(0, Value.agg (rC x).toArray)].toArray).run Try.prog w = .ok (.slice (some ⟨w.heap.size, 0, none⟩) 1 1) (w.alloc (.cells (rC x).toArray TE8)) := by
  obtain ⟨i, z, hi, hz, hs, _, _, h0, _⟩ := ai_elem
  exact run_bs1 Try.underlying89 hi hz (by omega) (by omega) rfl (by rw [rC_length, hs]) w
end Go.Proofs.Ytmndofgagngcgaa
