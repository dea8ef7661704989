/- Maps as rules of the calculus: made, looked up, written, cut, counted. Keys of whatever type whose equality is known. No condition; no program. -/
import Derived.Test.YtoncdfpohdchgaaDoorOw
import Derived.MapKept
import Derived.WideKeyRuns
import Derived.ChangeMaps4
set_option linter.unusedSimpArgs false
set_option linter.unusedVariables false
namespace Go.Fw
open Go.RowKit

/-! ## Keys -/
/-- What a map's look-up wants to know of its keys: α as Lean has them, enc as the program does. -/
structure KeyEq (P : Program) (k : TypeId) {α : Type} [DecidableEq α] (enc : α → Value) : Prop where
  eq : ∀ (w : World) (a b : α), (Op.equal k (enc a) (enc b)).run P w = .ok (decide (a = b)) w
  check : ∀ (w : World) (em : Bool) (a : α), (Instr.checkKey em 10000 k (enc a)).run P w = .ok () w
  wide : (match P.underlying k with | some (.array _ _) | some (.struct _) => true | _ => false) = true
  same : ∀ a : α, Instr.sameBits 10000 (enc a) (enc a) = true

section
variable {P : Program} {k : TypeId} {α β : Type} [DecidableEq α] {enc : α → Value}
/-- The first of a list with this key, and its place. -/
def mfind (key : β → α) (a : α) : List β → Nat → Option (Nat × β)
  | [], _ => none
  | e :: r, i => if key e = a then some (i, e) else mfind key a r (i + 1)
theorem mfind_none {key : β → α} {a : α} : ∀ {l : List β} {i : Nat}, mfind key a l i = none → ∀ e ∈ l, key e ≠ a
  | [], _, _, e, he => by cases he
  | x :: r, i, h, e, he => by
    unfold mfind at h
    split at h
    · cases h
    · rename_i hne
      rcases List.mem_cons.1 he with rfl | he
      · exact hne
      · exact mfind_none h e he
theorem mfind_some {key : β → α} {a : α} : ∀ {l : List β} {i j : Nat} {e : β}, mfind key a l i = some (j, e) → i ≤ j ∧ l[j - i]? = some e ∧ key e = a
  | [], _, _, _, h => by cases h
  | x :: r, i, j, e, h => by
    unfold mfind at h
    split at h
    · rename_i hk
      cases h
      exact ⟨Nat.le_refl _, by simp, hk⟩
    · obtain ⟨h1, h2, h3⟩ := mfind_some h
      refine ⟨by omega, ?_, h3⟩
      rw [show j - i = (j - (i + 1)) + 1 by omega, List.getElem?_cons_succ]
      exact h2
theorem mfind_shift {key : β → α} {a : α} : ∀ {l : List β} {i : Nat}, (mfind key a l i).map (·.2) = l.find? (fun e => decide (key e = a))
  | [], _ => rfl
  | x :: r, i => by
    unfold mfind
    rw [List.find?_cons]
    by_cases h : key x = a
    · simp [h]
    · simp [h, mfind_shift (l := r) (i := i + 1)]
theorem run_findAsking (K : KeyEq P k enc) (w : World) (a : α) (key : β → α) (me : β → MapEntry) (hme : ∀ e, (me e).key = enc (key e)) : ∀ (l : List β) (i : Nat),
    (Instr.findAsking k (enc a) (l.map me) i).run P w = .ok ((mfind key a l i).map fun p => (p.1, (me p.2).val)) w
  | [], i => by simp [Instr.findAsking, mfind]
  | e :: r, i => by
    simp only [List.map_cons, Instr.findAsking, Sem.run_bind, hme, K.eq, Result.andThen_ok, mfind]
    by_cases h : key e = a
    · simp [h]
    · have h' : ¬ a = key e := fun x => h x.symm
      simp only [h, h', decide_false, Bool.false_eq_true, if_false]
      exact run_findAsking K w a key me hme r (i + 1)
theorem run_findKey (K : KeyEq P k enc) (w : World) (a : α) (key : β → α) (me : β → MapEntry) (hme : ∀ e, (me e).key = enc (key e)) (l : List β) :
    (Instr.findKey k (enc a) (l.map me)).run P w = .ok ((mfind key a l 0).map fun p => (p.1, (me p.2).val)) w := by
  rw [run_findKey_eq w K.wide]
  exact run_findAsking K w a key me hme l 0
end

/-- A look-up's value. -/
def mval {β : Type} (me : β → MapEntry) (z : Value) : Option (Nat × β) → Value
  | some p => (me p.2).val
  | none => z
/-- The map at r holds these entries. -/
def MapAt {β : Type} (w : World) (r : Nat) (me : β → MapEntry) (l : List β) (clock : Nat) : Prop := w.heap[r]? = some (.map (l.map me).toArray clock)
section
variable {β : Type} {w w' : World} {r : Nat} {me : β → MapEntry} {l : List β} {clock : Nat} {S : Nat → Prop}
theorem MapAt.lt (h : MapAt w r me l clock) : r < w.heap.size := (Array.getElem?_eq_some_iff.1 h).1
theorem MapAt.chg (h : MapAt w r me l clock) (hc : Chg S w w') (hs : ¬ S r) : MapAt w' r me l clock := (hc.block r h.lt hs).trans h
theorem MapAt.ext (h : MapAt w r me l clock) (hc : Ext w w') : MapAt w' r me l clock := h.chg hc (fun f => f)
end
theorem chg_setBlock {S : Nat → Prop} {w : World} {r : Nat} {o : Obj} (h : S r) : Chg S w { w with heap := w.heap.setIfInBounds r o } :=
  ⟨rfl, rfl, rfl, by simp, fun k hk hn => by
    have : r ≠ k := by rintro rfl; exact hn h
    simp [Array.getElem?_setIfInBounds, this], Nat.le_refl _⟩
theorem heap_setBlock {w : World} {r : Nat} {o : Obj} (h : r < w.heap.size) : ({ w with heap := w.heap.setIfInBounds r o } : World).heap[r]? = some o := by
  simp [Array.getElem?_setIfInBounds, h]

/-! ## The operations -/
/-- The operation hands back nothing that is kept, and leaves a world of which R tells. -/
def Su (P : Program) (n : NN) (fr : Fr) (o : Op) (ty : TypeId) (w : World) (R : World → Prop) : Prop :=
  ∀ a (o' : Oper), o'.op = o → o'.type = ty → Rep n a fr → ∃ w', ((execOp a.eval o').run P w = .ok .skip w' ∨ ∃ v, (execOp a.eval o').run P w = .ok (.value v) w') ∧ R w'
section
variable {P : Program} {n : NN} {Φ : Exit → Fr → World → Prop} {fr : Fr} {w : World} {ty : TypeId} {R : World → Prop}
theorem WL.su {ops : Array Oper} {rest : List Oper} {o : Op} {pos : String} {aft : Array Edge}
    (hs : Su P n fr o ty w R) (h : ∀ w', R w' → WL P ops n Φ rest fr w') : WL P ops n Φ (⟨none, o, ty, pos, aft, none⟩ :: rest) fr w := fun a ha =>
  wpList_plain rfl fun K hK => by
    obtain ⟨w', hr, hR⟩ := hs a ⟨none, o, ty, pos, aft, none⟩ rfl rfl ha
    unfold Oper.wp
    rcases hr with hr | ⟨v, hr⟩
    · rw [hr]; exact hK _ _ (h w' hR _ ha)
    · rw [hr]; exact hK _ _ (h w' hR _ ha)
theorem RS.su {ops : Array Oper} {S : World → Prop} {fuel : Nat} {listed : Array Bool} {i : Nat} {o : Op} {pos : String} {aft : Array Edge}
    (hi : ops[i]? = some ⟨none, o, ty, pos, aft, none⟩) (hs : Su P n fr o ty w R)
    (h : ∀ w', R w' → S w' ∧ RH P ops S n Φ fuel (listed.setIfInBounds i true) fr w') : RS P ops S n Φ fuel listed i fr w := fun a ha => by
  obtain ⟨w', hr, hR⟩ := hs a ⟨none, o, ty, pos, aft, none⟩ rfl rfl ha
  obtain ⟨h1, h2⟩ := h w' hR
  unfold wpOp
  rw [hi]
  simp only [Region.wanted, if_true]
  refine .inl ?_
  unfold Oper.wp
  rcases hr with hr | ⟨v, hr⟩
  · rw [hr]; exact ⟨h1, h2 _ ha⟩
  · rw [hr]; exact ⟨h1, h2 _ ha⟩
theorem St.makeMap {t : TypeId} : St P n fr (.makeMap t none) ty w (fun v w' => ∃ r, v = .map (some r) ∧ w.heap.size ≤ r ∧ (∀ (β : Type) (me : β → MapEntry), MapAt w' r me ([] : List β) 0) ∧ Ext w w') := fun a o' ho hty ha => by
  refine ⟨.map (some w.heap.size), w.alloc (.map #[] 0), ?_, w.heap.size, rfl, Nat.le_refl _, fun β me => ?_, Chg.alloc _⟩
  · simp [execOp, ho, Instr.makeMap, newObj, Sem.run]
  · exact heap_alloc_new w _
theorem St.makeMapN {t k e : TypeId} {x : Operand} {q : IntKind} {i : Int} (hT : P.underlying t = some (.map k e)) (hx : ev fr x = some (.int q i)) : St P n fr (.makeMap t (some x)) ty w (fun v w' => ∃ r, v = .map (some r) ∧ w.heap.size ≤ r ∧ (∀ (β : Type) (me : β → MapEntry), MapAt w' r me ([] : List β) 0) ∧ Ext w w') := fun a o' ho hty ha => by
  refine ⟨.map (some w.heap.size), w.alloc (.map #[] 0), ?_, w.heap.size, rfl, Nat.le_refl _, fun β me => ?_, Chg.alloc _⟩
  · simp [execOp, ho, Instr.makeMap, newObj, run_underlying hT, ha.ev hx, asInt, Sem.run]
    rfl
  · exact heap_alloc_new w _
theorem Y.len_map {x : Operand} {t k e : TypeId} {r clock : Nat} {β : Type} {me : β → MapEntry} {l : List β} (hT : P.underlying t = some (.map k e)) (hx : ev fr x = some (.map (some r))) (hm : MapAt w r me l clock) :
    Yw P n fr (.call { callee := .builtin .len, args := #[x], argTypes := #[t] }) ty w (.int .i64 (l.length : Int)) w := fun a o' ho _ ha => by
  have h1 := MapKept.run_getObj_map (P := P) hm
  simp [execOp, ho, resolve, invoke, builtin, ha.ev hx, Builtin.len_, run_underlying hT, h1, goInt]
section keyed
variable {α β : Type} [DecidableEq α] {enc : α → Value} {key : β → α} {me : β → MapEntry} {l : List β} {clock r : Nat} {t k e : TypeId}
theorem Y.lookupOk {x y : Operand} {a : α} {z : Value} (K : KeyEq P k enc) (hme : ∀ e, (me e).key = enc (key e)) (hT : P.underlying t = some (.map k e)) (hz : ∀ w, (zeroValue e).run P w = .ok z w)
    (hx : ev fr x = some (.map (some r))) (hy : ev fr y = some (enc a)) (hm : MapAt w r me l clock) :
    Yw P n fr (.lookup t x y true) ty w (.tuple #[mval me z (mfind key a l 0), .bool (mfind key a l 0).isSome]) w := fun b o' ho _ ha => by
  have h1 := MapKept.run_getObj_map (P := P) hm
  have h2 := run_findKey K w a key me hme l
  have h3 := fun em => K.check w em a
  cases hf : mfind key a l 0 with
  | none => rw [hf] at h2; simp [mval, execOp, ho, ha.ev hx, ha.ev hy, Instr.lookup, run_underlying hT, h1, h3, h2, hz]
  | some p => rw [hf] at h2; simp [mval, execOp, ho, ha.ev hx, ha.ev hy, Instr.lookup, run_underlying hT, h1, h3, h2]
theorem Y.lookup {x y : Operand} {a : α} {z : Value} (K : KeyEq P k enc) (hme : ∀ e, (me e).key = enc (key e)) (hT : P.underlying t = some (.map k e)) (hz : ∀ w, (zeroValue e).run P w = .ok z w)
    (hx : ev fr x = some (.map (some r))) (hy : ev fr y = some (enc a)) (hm : MapAt w r me l clock) :
    Yw P n fr (.lookup t x y false) ty w (mval me z (mfind key a l 0)) w := fun b o' ho _ ha => by
  have h1 := MapKept.run_getObj_map (P := P) hm
  have h2 := run_findKey K w a key me hme l
  have h3 := fun em => K.check w em a
  cases hf : mfind key a l 0 with
  | none => rw [hf] at h2; simp [mval, execOp, ho, ha.ev hx, ha.ev hy, Instr.lookup, run_underlying hT, h1, h3, h2, hz]
  | some p => rw [hf] at h2; simp [mval, execOp, ho, ha.ev hx, ha.ev hy, Instr.lookup, run_underlying hT, h1, h3, h2]
theorem Y.lookupAt {x y : Operand} {a : α} {v : Value} {p : Nat × β} (K : KeyEq P k enc) (hme : ∀ e, (me e).key = enc (key e)) (hT : P.underlying t = some (.map k e))
    (hx : ev fr x = some (.map (some r))) (hy : ev fr y = some (enc a)) (hm : MapAt w r me l clock) (hf : mfind key a l 0 = some p) (hv : (me p.2).val = v) :
    Yw P n fr (.lookup t x y false) ty w v w := fun b o' ho _ ha => by
  have h1 := MapKept.run_getObj_map (P := P) hm
  have h2 := run_findKey K w a key me hme l
  have h3 := fun em => K.check w em a
  rw [hf] at h2
  simp [execOp, ho, ha.ev hx, ha.ev hy, Instr.lookup, run_underlying hT, h1, h3, h2, hv]
/-- A new key: the entry comes last. -/
theorem Su.mapNew {x y z : Operand} {a : α} {v : Value} {b : β} (K : KeyEq P k enc) (hme : ∀ e, (me e).key = enc (key e)) (hT : P.underlying t = some (.map k e))
    (hx : ev fr x = some (.map (some r))) (hy : ev fr y = some (enc a)) (hzv : ev fr z = some v) (hm : MapAt w r me l clock) (hf : mfind key a l 0 = none) (hb : me b = { key := enc a, val := v, born := clock }) :
    Su P n fr (.mapUpdate t x y z) ty w (fun w' => MapAt w' r me (l ++ [b]) (clock + 1) ∧ Chg (· = r) w w') := fun c o' ho _ ha => by
  have h1 := MapKept.run_getObj_map (P := P) hm
  have h2 := run_findKey K w a key me hme l
  have h3 := fun em => K.check w em a
  rw [hf] at h2
  refine ⟨{ w with heap := w.heap.setIfInBounds r (.map ((l ++ [b]).map me).toArray (clock + 1)) }, .inl ?_, heap_setBlock hm.lt, chg_setBlock rfl⟩
  have h4 := MapKept.run_setObj_map (P := P) (.map ((l.map me).toArray.push { key := enc a, val := v, born := clock }) (clock + 1)) hm
  simp only [execOp, ho, ha.ev hx, ha.ev hy, ha.ev hzv, Instr.mapUpdate, Sem.run_bind, run_underlying hT, h1, Result.andThen_ok, h3, h2, Option.map_none, h4]
  simp [hb]
/-- A key that is there: its entry bears the new value. -/
theorem Su.mapOld {x y z : Operand} {a : α} {v : Value} {j : Nat} {b b' : β} (K : KeyEq P k enc) (hme : ∀ e, (me e).key = enc (key e)) (hT : P.underlying t = some (.map k e))
    (hx : ev fr x = some (.map (some r))) (hy : ev fr y = some (enc a)) (hzv : ev fr z = some v) (hm : MapAt w r me l clock) (hf : mfind key a l 0 = some (j, b)) (hb : me b' = { key := enc a, val := v, born := (me b).born }) :
    Su P n fr (.mapUpdate t x y z) ty w (fun w' => MapAt w' r me (l.set j b') clock ∧ Chg (· = r) w w') := fun c o' ho _ ha => by
  have h1 := MapKept.run_getObj_map (P := P) hm
  have h2 := run_findKey K w a key me hme l
  have h3 := fun em => K.check w em a
  obtain ⟨_, hj, hk⟩ := mfind_some hf
  rw [Nat.sub_zero] at hj
  rw [hf] at h2
  have hg : (l.map me).toArray[j]? = some (me b) := by simp [hj]
  have hst : (Instr.keyThatStays (me b).key (enc a)).run P w = .ok (enc a) w := by
    rw [hme, hk]; unfold Instr.keyThatStays; rw [if_pos (K.same a)]; rfl
  refine ⟨{ w with heap := w.heap.setIfInBounds r (.map ((l.set j b').map me).toArray clock) }, .inl ?_, heap_setBlock hm.lt, chg_setBlock rfl⟩
  have h4 := MapKept.run_setObj_map (P := P) (.map ((l.map me).toArray.modify j fun e => { e with key := enc a, val := v }) clock) hm
  simp only [execOp, ho, ha.ev hx, ha.ev hy, ha.ev hzv, Instr.mapUpdate, Sem.run_bind, run_underlying hT, h1, Result.andThen_ok, h3, h2, Option.map_some, hg, Option.getD_some, hst, h4]
  have : (l.map me).toArray.modify j (fun e => { e with key := enc a, val := v }) = ((l.set j b').map me).toArray := by
    apply Array.ext'
    apply List.ext_getElem?
    intro i
    have hjl : j < l.length := (List.getElem?_eq_some_iff.1 hj).1
    have hj' : l[j] = b := (List.getElem?_eq_some_iff.1 hj).2
    by_cases hi : j = i
    · subst hi
      simp [Array.toList_modify, List.getElem?_modify, hjl, hj', hb]
    · simp [Array.toList_modify, List.getElem?_modify, hi, List.getElem?_set]
  rw [this]
  rfl
theorem Su.mapDelete {x y : Operand} {a : α} {j : Nat} {b : β} {u : TypeId} (K : KeyEq P k enc) (hme : ∀ e, (me e).key = enc (key e)) (hT : P.underlying t = some (.map k e))
    (hx : ev fr x = some (.map (some r))) (hy : ev fr y = some (enc a)) (hm : MapAt w r me l clock) (hf : mfind key a l 0 = some (j, b)) :
    Su P n fr (.call { callee := .builtin .delete, args := #[x, y], argTypes := #[t, u] }) ty w (fun w' => MapAt w' r me (l.eraseIdx j) clock ∧ Chg (· = r) w w') := fun c o' ho _ ha => by
  have h1 := MapKept.run_getObj_map (P := P) hm
  have h2 := run_findKey K w a key me hme l
  have h3 := fun em => K.check w em a
  obtain ⟨_, hj, hk⟩ := mfind_some hf
  rw [Nat.sub_zero] at hj
  rw [hf] at h2
  refine ⟨{ w with heap := w.heap.setIfInBounds r (.map ((l.eraseIdx j).map me).toArray clock) }, .inr ⟨.tuple #[], ?_⟩, heap_setBlock hm.lt, chg_setBlock rfl⟩
  have h4 := MapKept.run_setObj_map (P := P) (.map ((l.map me).eraseIdx j).toArray clock) hm
  simp only [execOp, ho, resolve, invoke, builtin, List.map_toArray, List.map_cons, List.map_nil, ha.ev hx, ha.ev hy]
  rw [ChangeMaps.map_eraseIdx]
  simp [Builtin.delete_, run_underlying hT, h1, h3, h2, h4, Result.andThen]
end keyed
theorem Y.neq_nilmap {x : Operand} {r : Nat} {t t' k e : TypeId} (hT : P.underlying t = some (.map k e)) (hx : ev fr x = some (.map (some r))) :
    Yw P n fr (.binOp .neq t x (.const (.map none)) t') ty w (.bool true) w := fun a o' ho _ ha => by
  have h1 := ha.ev hx
  have h2 : a.eval (.const (.map none)) = .map none := rfl
  have h3 : ∀ d, (Op.equalIn (d + 1) t (.map (some r)) (.map none)).run P w = .ok false w := fun d => by simp [Op.equalIn, run_underlying hT]
  have h4 : (Op.equal t (.map (some r)) (.map none)).run P w = .ok false w := h3 9999
  simp [execOp, ho, h1, h2, eqGuard, binOp, h4]
end
end Go.Fw
