/- Slices of bools of our own: made, read, written, cleared. No condition. -/
import Derived.Test.YtoncdfpohdchgaaDoorMp
import Derived.Test.YtoncdfpohdchgaaDoorKg
import Derived.Laws.MakeOwn
set_option linter.unusedSimpArgs false
set_option linter.unusedVariables false
namespace Go.Fw
open Go.RowKit
def boolC (S : List Bool) : List Value := S.map Value.bool
theorem boolC_length (S : List Bool) : (boolC S).length = S.length := by simp [boolC]
theorem one_boolC {S : List Bool} : ∀ u ∈ boolC S, u.oneCell' = true := by
  intro u hu
  obtain ⟨b, _, rfl⟩ := List.mem_map.1 hu
  rfl
theorem boolC_split {S : List Bool} {i : Nat} {c : Bool} (v : Bool) (h : S[i]? = some c) : boolC S = boolC (S.take i) ++ [.bool c] ++ boolC (S.drop (i + 1)) ∧ boolC (S.set i v) = boolC (S.take i) ++ [.bool v] ++ boolC (S.drop (i + 1)) := by
  obtain ⟨hlt, hc⟩ := List.getElem?_eq_some_iff.1 h
  have e1 : S = S.take i ++ [c] ++ S.drop (i + 1) := by
    conv => lhs; rw [← List.take_append_drop i S, List.drop_eq_getElem_cons hlt, hc]
    simp
  have e2 : S.set i v = S.take i ++ [v] ++ S.drop (i + 1) := by
    rw [List.set_eq_take_append_cons_drop, if_pos hlt]
    simp
  constructor
  · conv => lhs; rw [e1]
    simp [boolC]
  · rw [e2]; simp [boolC]
section
variable {P : Program} {n : NN} {Φ : Exit → Fr → World → Prop} {fr : Fr} {w : World} {ty : TypeId} {e : TypeId} {b : Nat} {S : List Bool}
theorem Blk.bcell (h : Blk w b e (boolC S)) {i : Nat} {v : Bool} (hi : S[i]? = some v) : w.cell? ((⟨b, 0, none⟩ : Addr).add (i * 1)) = some (.bool v) := by
  rw [Nat.mul_one]
  exact h.mem.cell i (by rw [boolC, List.getElem?_map, hi]; rfl)
theorem WL.storeB {ops : Array Oper} {rest : List Oper} {t : TypeId} {x y : Operand} {pos : String} {aft : Array Edge} {v c : Bool} {i : Nat} {A : Addr}
    (hx : ev fr x = some (.pointer (some A))) (hA : A = (⟨b, 0, none⟩ : Addr).add (i * 1)) (hy : ev fr y = some (.bool v)) (hS : (P.info? t).map (·.size) = some 1) (hB : Blk w b e (boolC S)) (hi : S[i]? = some c)
    (h : ∀ w', Chg (· = b) w w' → Blk w' b e (boolC (S.set i v)) → WL P ops n Φ rest fr w') : WL P ops n Φ (⟨none, .store t x y, ty, pos, aft, none⟩ :: rest) fr w := by
  obtain ⟨e1, e2⟩ := boolC_split v hi
  have hlt := (List.getElem?_eq_some_iff.1 hi).1
  refine WL.store (g := b) (pre := boolC (S.take i)) (old := [.bool c]) (post := boolC (S.drop (i + 1))) (new := [.bool v]) hx ?_ hy rfl hS (e1 ▸ hB) rfl (one1 rfl) fun w' hc hB' => ?_
  · rw [hA, Nat.mul_one, add_zero', boolC_length, List.length_take, Nat.min_eq_left (by omega)]
  · exact h w' hc (e2 ▸ hB')
theorem St.makeB {t : TypeId} {x y : Operand} {k k' : IntKind} {m : Nat} {i : TypeInfo} (hT : P.underlying t = some (.slice e)) (hi : P.info? e = some i) (hz : i.zero = some (.bool false)) (h1 : i.size = 1) (hb : i.bytes = 1)
    (hx : ev fr x = some (.int k (m : Int))) (hy : ev fr y = some (.int k' (m : Int))) (hm : m ≤ 281474976710656) :
    St P n fr (.makeSlice t x y) ty w (fun v w' => ∃ g, v = .slice (some ⟨g, 0, none⟩) m m ∧ w.heap.size ≤ g ∧ Blk w' g e (boolC (List.replicate m false)) ∧ Ext w w') := fun a o' ho hty ha => by
  have hr := run_make (P := P) w t e i (.bool false) hT hi hz k k' (m : Int) (m : Int) (by omega) (Int.le_refl _) (by rw [hb]; omega) (by omega)
  simp only [Int.toNat_natCast, h1, Nat.mul_one] at hr
  refine ⟨_, w.alloc (.cells (madeCells (Value.bool false).cells m) e), ?_, w.heap.size, rfl, Nat.le_refl _, ?_, Chg.alloc _⟩
  · simp only [execOp, ho, ha.ev hx, ha.ev hy, Sem.run_bind]
    rw [hr]; rfl
  · have e0 : madeCells (Value.bool false).cells m = (boolC (List.replicate m false)).toArray := by
      unfold madeCells
      apply Array.ext_getElem?
      intro j
      simp only [boolC, List.map_replicate, List.getElem?_toArray, Array.getElem?_map, List.getElem?_replicate]
      have hc : (Value.bool false).cells = #[.bool false] := rfl
      rw [hc]
      by_cases hj : j < m
      · simp [hj, Array.getElem?_range, Nat.mod_one]
      · simp [hj, Array.getElem?_range]
    rw [e0]
    exact Blk.new w e _
/-- A call of a closure that lies in a slot. -/
theorem WL.callV {ops : Array Oper} {rest : List Oper} {dst : Option Nat} {t : Nat} {f : FuncId} {args : List Operand} {tys : Array TypeId} {pos : String} {aft : Array Edge} {vs cap : List Value} {fn : Func}
    {R : Value → World → Prop} (ht : fr.get t = some (.func (.func f) #[] cap.toArray))
    (hf : P.funcs[f]? = some fn) (hb : fn.body.isNone = false) (hn : (fn.name == "runtime.NumGoroutine") = false)
    (he : evs fr args = some vs) (hC : Calls P f (vs ++ cap).toArray w (Ret R)) (hd : ∀ d, dst = some d → d < n.1)
    (h : ∀ v w', R v w' → WL P ops n Φ rest (match dst with | some d => (d, v) :: fr | none => fr) w') :
    WL P ops n Φ (⟨dst, .call { callee := .value (.tmp t), args := args.toArray, argTypes := tys }, ty, pos, aft, none⟩ :: rest) fr w := fun a ha =>
  wpList_plain rfl fun K hK => by
    have hrun : (execOp a.eval ⟨dst, .call { callee := .value (.tmp t), args := args.toArray, argTypes := tys }, ty, pos, aft, none⟩).run P w = .ok (.enter f (vs ++ cap).toArray) w := by
      have h1 := ha.evs he
      have h2 : a.eval (.tmp t) = .func (.func f) #[] cap.toArray := ha.ev (x := .tmp t) ht
      simp [execOp, resolve, invoke, Deferred.ofValue, h2, h1, run_callFunc hf hb hn]
    unfold Oper.wp
    rw [hrun]
    refine hC.mono fun e w' hr => ?_
    cases e with
    | returned v =>
      refine hK _ _ (h v w' hr _ ?_)
      cases dst with
      | none => exact ha
      | some d => exact ha.put (hd d rfl) v
    | panicked ch => exact hr.elim
    | outgrown => exact hr.elim
theorem Su.clearB {t : TypeId} {x : Operand} {m c : Nat} (hT : P.underlying t = some (.slice e)) (hz : ∀ w, (zeroValue e).run P w = .ok (.bool false) w) (hx : ev fr x = some (.slice (some ⟨b, 0, none⟩) m c)) (hB : Blk w b e (boolC S)) (hm : S.length = m) :
    Su P n fr (.call { callee := .builtin .clear, args := #[x], argTypes := #[t] }) ty w (fun w' => Blk w' b e (boolC (List.replicate m false)) ∧ Chg (· = b) w w') := fun a o' ho hty ha => by
  cases m with
  | zero =>
    have hS : S = [] := List.eq_nil_of_length_eq_zero hm
    refine ⟨w, .inr ⟨.tuple #[], ?_⟩, by rw [hS] at hB; exact hB, Chg.refl⟩
    simp [execOp, ho, resolve, invoke, builtin, ha.ev hx, Builtin.clear_, run_underlying hT]
  | succ m =>
    have hst := storeCells_own (P := P) b 0 e (0, 0) (boolC (List.replicate (m + 1) false)) 0 (boolC S).toArray w hB (by simp [boolC_length, hm]) one_boolC (fun p _ h => by simp at h)
    have hz0 : (Builtin.zeroCells (Value.bool false).cells (m + 1)).toList = boolC (List.replicate (m + 1) false) := by
      have hc : (Value.bool false).cells = #[.bool false] := rfl
      rw [hc]
      apply List.ext_getElem?
      intro j
      simp only [Builtin.zeroCells, boolC, List.map_replicate, List.getElem?_replicate, Array.getElem?_toList]
      by_cases hj : j < m + 1
      · simp [hj, Array.getElem?_range, Nat.mod_one]
      · simp [hj, Array.getElem?_range]
    have heq : ((boolC S).toArray.toList.take (0 + 0) ++ boolC (List.replicate (m + 1) false) ++ (boolC S).toArray.toList.drop (0 + 0 + (boolC (List.replicate (m + 1) false)).length)).toArray = (boolC (List.replicate (m + 1) false)).toArray := by
      simp [boolC_length, hm, List.drop_of_length_le]
    rw [heq] at hst
    refine ⟨_, .inr ⟨.tuple #[], ?_⟩, setRow_heap w b _ _ e (0, 0) hB, ⟨rfl, rfl, rfl, by simp, fun k hk hn => setRow_other w b k _ (fun h => hn h), Nat.le_refl _⟩⟩
    simp [execOp, ho, resolve, invoke, builtin, ha.ev hx, Builtin.clear_, run_underlying hT, hz, hz0, hst]
end
end Go.Fw
