/- Parts of a proof: what its last text leans on. No condition. -/
import Derived.Test.YtfanmpbapabboaaGreatDoorRows
import Derived.Lib.LaidTab
import Derived.LaidHandle
import Derived.Stop.Joined
import Derived.MapKept
import Derived.WideKeyRuns
import Derived.ChangeMaps4
import Derived.DeepKeys3
import Derived.Test.YtfanmpbapabboaaGreatDoorK02
import Derived.Test.YtfanmpbapabboaaGreatDoorK03
import Derived.Test.YtfanmpbapabboaaGreatDoorK09
set_option linter.unusedSimpArgs false
set_option linter.unusedVariables false
/- What a row of this seat lists ('digest.keys'), as the contracts want it; a world that meets it. No condition. -/
namespace Go.Fw
open Go.RowKit Go.WideShapes Go.ChangeShapes Go.ChangeAt Go.Deep
section
variable {H : Type} {enc : TypeId × Value → H}
theorem law_lifted_and {C : Checked} {os : Os} {f : FuncId} {fn : Func} {s : ChangeSpec} {conds : List PathCond} {apart fresh handsOn again : Bool} {tb : TypeId} {X : World → Array Value → Prop}
  (hX : ∀ (w w' : World) (args : Array Value), w.heap = w'.heap → X w args → X w' args)
  (own : ownKnob C.prog.godebug = none) (started : os.Started) (noInit : C.prog.inits.idxOf? f = none) (hfn : C.prog.funcs[f]? = some fn)
  (witness : ∃ (w : World) (tape : Tape) (i : Input), w.os = os ∧ (w.forCall tape i).Shaped C.prog ∧ i.vars = [] ∧ Input.okWide C.prog (w.forCall tape i) .any w.heap.size f i ∧
   ((s.pre enc C.prog fn conds apart (w.forCall tape i).memory i.args ∧ X (w.forCall tape i).memory i.args) ∧ sizedMet enc C.prog fn (OpenSpec.ofChange s) apart (w.forCall tape i).memory i.args) ∧ ({} : Assume).holds C.prog (lone (Frame.enter C.prog f i.args .normal) [] (w.forCall tape i)))
  (hl : laidOutB C.prog = true) (hr : fn.params.toList.all (fun t => C.prog.readableRec t && decide (t < C.prog.types.size)) = true)
  (hres : fn.resultTypes = #[tb]) (hb : C.prog.underlying tb = some .bool) (hvars : s.vars = [])
  (hspec : ∀ ds : List (DataW H), ds.length = fn.params.toList.length → s.fn H ds = { results := [.lit (.bool true)], args := ds })
  (contract : ∀ (W : World) (base : Nat) (args : Array Value) (ds : List (DataW H)) (ps : List MemPlace),
   (∀ (j : Nat) t v, fn.params[j]? = some t → args[j]? = some v → Value.okWide C.prog W .any base t v) →
   DataW.TrodAll enc C.prog W 0 (fun _ => true) true fn.params.toList args.toList ds ps → (∀ p ∈ ps, p.block < W.heap.size) →
   (DataW.weightsEach C.prog fn.params.toList ds).all (· ≤ reachBytes) = true → W.noneFrozen ps → X W args →
   Calls C.prog f args W (Ret fun v W' => v = .bool true ∧ Ext W W')) :
  ReturnsInHanded {} C os f .any (fun w args => (s.pre enc C.prog fn conds apart w args ∧ X w args) ∧ sizedMet enc C.prog fn (OpenSpec.ofChange s) apart w args) (s.post enc C.prog fn apart fresh handsOn again) := by
 refine returnsInHanded_of_change_and hX own started noInit hfn witness ?_
 intro W base args ds gs before hval hW _ hsz hXW _
 have hW' := hW
 have hlt := hW.lt
 obtain ⟨p, q, hA, hV, rfl, hfz, _⟩ := hW
 rw [hvars] at hV
 have hv0 : s.plain.varTypes C.prog = [] := by simp [ChangeSpec.plain, DataSpec.varTypes, hvars]
 obtain ⟨rfl, rfl⟩ := trodVars_none hV
 rw [hv0] at hsz
 simp only [List.append_nil] at hsz hW' hlt hfz
 have hlen : ds.length = fn.params.toList.length := by
  have key : ∀ (ts : List TypeId) (vs : List Value) (ds : List (DataW H)) (ps : List MemPlace), DataW.TrodAll enc C.prog W 0 (fun _ => true) true ts vs ds ps → ds.length = ts.length := by
   intro ts
   induction ts with
   | nil => intro vs ds ps h; obtain ⟨_, rfl, _⟩ := trodAll_nil h; rfl
   | cons t ts ih => intro vs ds ps h; obtain ⟨_, _, _, _, _, _, _, rfl, _, _, h2⟩ := trodAll_cons h; simp [ih _ _ _ h2]
  exact key _ _ _ _ hA
 refine (contract W base args ds p hval hA (fun x hx => hlt x hx) hsz hfz hXW).mono fun e W' he => ?_
 cases e with
 | returned v =>
  obtain ⟨rfl, hx⟩ := he
  have hs := hspec ds hlen
  have hbel := hx.below
  have hrr : ∀ t ∈ fn.params.toList, C.prog.readableRec t = true ∧ t < C.prog.types.size := fun t ht => by
   have := List.all_eq_true.1 hr t ht
   simpa using this
  refine ⟨_, rfl, post_below (pa := p) (pv := []) hW' (fun b sp hd => ?_) (fun sp hsp => ?_) (fun sp _ => ?_) (by simp) hbel ?_⟩
  ·
   rw [List.append_nil, hs, hres]; exact trodAll_mk1 (shut_bool hb _)
  ·
   rw [List.append_nil, hs]; exact trodAll_below hl hbel hrr hA hlt hsp
  ·
   rw [List.append_nil, hs, hvars]; rfl
  ·
   intro j t r h1 h2
   rw [hres] at h1 h2
   cases j with
   | zero =>
    simp [Value.resultList] at h1 h2
    subst h1; subst h2
    exact okWide_bool_mk hb _
   | succ j => simp at h1
 | panicked ch => exact he.elim
 | outgrown => exact he.elim
theorem mem_of_tab {P : Program} {W : World} {name : String} {k : IntKind} {zs : List Int} {g : Nat} (h : Lib.TabIs P W name k zs) (hg : P.globalNamed name = some g) : Mem W ⟨g, 0, none⟩ (zs.map fun z => Value.int k z) := fun j v hj => by
 have hjl : j < zs.length := by simpa using (List.getElem?_eq_some_iff.1 hj).1
 have e : (⟨g, 0, none⟩ : Addr).add j = ⟨g, j, none⟩ := by unfold Addr.add; split <;> simp_all
 rw [e, h.cell hg j hjl]
 have : zs[j]? = some (zs.getD j 0) := by simp [List.getD, hjl]
 rw [List.getElem?_map, this] at hj
 simpa using hj
end
end Go.Fw
namespace Go.Proofs.YtfanmpbapabboaaGreatDoor
open Go.RowKit Go.Fw Go.Pl
theorem keysT : (Tryz.prog.globals[0]?).map (·.type) = some 174 := by kernel_rfl
theorem keysNamed : Tryz.prog.globalNamed "recension/digest.keys" = some 0 := by kernel_rfl
theorem keys_cells32 : Tryz.prog.cellsOf 137 = 1 := by kernel_rfl
theorem keys_cellsK : Tryz.prog.cellsOf 174 = 64 := by kernel_rfl
theorem keys_laid : (Rows.laid_recension_digest_keys : DataW Unit) = Lib.tabData .u32 (keysL.map fun x => (x.toNat : Int)) := by kernel_rfl
abbrev laidL : List (String × DataW Unit) := [("recension/digest.keys", Rows.laid_recension_digest_keys)]
theorem keys_of_laid {W : World} (h : laidMetH Tryz.prog laidL W) : Mem W ⟨0, 0, none⟩ (wds keysL) := by
 have h' : laidMet Tryz.prog laidL W := h
 unfold laidL at h'
 rw [keys_laid] at h'
 have hT := Lib.tabIs_of_head keysNamed keysT Tryz.underlying174 Tryz.underlying137 keys_cells32 keys_cellsK h'
 have := mem_of_tab hT keysNamed
 rw [List.map_map] at this
 exact this
noncomputable def laidWorld (os : Os) : World :=
 let w0 := World.holding Tryz.prog os ⟨#[], #[], []⟩
 { w0 with heap := w0.heap.modify 0 fun
   | .cells _ t frozen => .cells (wds keysL).toArray t frozen
   | o => o }
theorem laidWorld_met (os : Os) (args : Array Value) : laidMetH Tryz.prog laidL ((laidWorld os).forCall (fun _ _ => 0) ⟨#[], args, []⟩).memory :=
 laidMet_of_run' 8 kr_ kr_
end Go.Proofs.YtfanmpbapabboaaGreatDoor
/- Maps as rules of the calculus: made, looked up, written, cut, counted. Keys of whatever type whose equality is known. No condition; no program. -/
namespace Go.Fw
open Go.RowKit
structure KeyEq (P : Program) (k : TypeId) {α : Type} [DecidableEq α] (enc : α → Value) : Prop where
 eq : ∀ (w : World) (a b : α), (Op.equal k (enc a) (enc b)).run P w = .ok (decide (a = b)) w
 check : ∀ (w : World) (em : Bool) (a : α), (Instr.checkKey em 10000 k (enc a)).run P w = .ok () w
 wide : (match P.underlying k with | some (.array _ _) | some (.struct _) => true | _ => false) = true
 same : ∀ a : α, Instr.sameBits 10000 (enc a) (enc a) = true
section
variable {P : Program} {k : TypeId} {α β : Type} [DecidableEq α] {enc : α → Value}
def mfind (key : β → α) (a : α) : List β → Nat → Option (Nat × β)
 | [], _ => none
 | e :: r, i => if key e = a then some (i, e) else mfind key a r (i + 1)
theorem mfind_none {key : β → α} {a : α} : ∀ {l : List β} {i : Nat}, mfind key a l i = none → ∀ e ∈ l, key e ≠ a
 | [], _, _, e, he => by cases he
 | x :: r, i, h, e, he => by
  unfold mfind at h
  split at h
  ·
   cases h
  ·
   rename_i hne
   rcases List.mem_cons.1 he with rfl | he
   ·
    exact hne
   ·
    exact mfind_none h e he
theorem mfind_some {key : β → α} {a : α} : ∀ {l : List β} {i j : Nat} {e : β}, mfind key a l i = some (j, e) → i ≤ j ∧ l[j - i]? = some e ∧ key e = a
 | [], _, _, _, h => by cases h
 | x :: r, i, j, e, h => by
  unfold mfind at h
  split at h
  ·
   rename_i hk
   cases h
   exact ⟨Nat.le_refl _, by simp, hk⟩
  ·
   obtain ⟨h1, h2, h3⟩ := mfind_some h
   refine ⟨by omega, ?_, h3⟩
   rw [show j - i = (j - (i + 1)) + 1 by omega, List.getElem?_cons_succ]
   exact h2
theorem run_findAsking (K : KeyEq P k enc) (w : World) (a : α) (key : β → α) (me : β → MapEntry) (hme : ∀ e, (me e).key = enc (key e)) : ∀ (l : List β) (i : Nat),
  (Instr.findAsking k (enc a) (l.map me) i).run P w = .ok ((mfind key a l i).map fun p => (p.1, (me p.2).val)) w
 | [], i => by simp [Instr.findAsking, mfind]
 | e :: r, i => by
  simp only [List.map_cons, Instr.findAsking, Sem.run_bind, hme, K.eq, Result.andThen_ok, mfind]
  by_cases h : key e = a
  ·
   simp [h]
  ·
   have h' : ¬ a = key e := fun x => h x.symm
   simp only [h, h', decide_false, Bool.false_eq_true, if_false]
   exact run_findAsking K w a key me hme r (i + 1)
theorem run_findKey (K : KeyEq P k enc) (w : World) (a : α) (key : β → α) (me : β → MapEntry) (hme : ∀ e, (me e).key = enc (key e)) (l : List β) :
  (Instr.findKey k (enc a) (l.map me)).run P w = .ok ((mfind key a l 0).map fun p => (p.1, (me p.2).val)) w := by
 rw [run_findKey_eq w K.wide]
 exact run_findAsking K w a key me hme l 0
end
def mval {β : Type} (me : β → MapEntry) (z : Value) : Option (Nat × β) → Value
 | some p => (me p.2).val
 | none => z
def MapAt {β : Type} (w : World) (r : Nat) (me : β → MapEntry) (l : List β) (clock : Nat) : Prop := w.heap[r]? = some (.map (l.map me).toArray clock)
section
variable {β : Type} {w w' : World} {r : Nat} {me : β → MapEntry} {l : List β} {clock : Nat} {S : Nat → Prop}
theorem MapAt.lt (h : MapAt w r me l clock) : r < w.heap.size := (Array.getElem?_eq_some_iff.1 h).1
theorem MapAt.chg (h : MapAt w r me l clock) (hc : Chg S w w') (hs : ¬ S r) : MapAt w' r me l clock := (hc.block r h.lt hs).trans h
theorem MapAt.ext (h : MapAt w r me l clock) (hc : Ext w w') : MapAt w' r me l clock := h.chg hc (fun f => f)
end
theorem chg_setBlock {S : Nat → Prop} {w : World} {r : Nat} {o : Obj} (h : S r) : Chg S w { w with heap := w.heap.setIfInBounds r o } :=
 ⟨rfl, rfl, rfl, by simp, fun k hk hn => by
  have : r ≠ k := by rintro rfl; exact hn h
  simp [Array.getElem?_setIfInBounds, this], Nat.le_refl _⟩
theorem heap_setBlock {w : World} {r : Nat} {o : Obj} (h : r < w.heap.size) : ({ w with heap := w.heap.setIfInBounds r o } : World).heap[r]? = some o := by
 simp [Array.getElem?_setIfInBounds, h]
def Su (P : Program) (n : NN) (fr : Fr) (o : Op) (ty : TypeId) (w : World) (R : World → Prop) : Prop :=
 ∀ a (o' : Oper), o'.op = o → o'.type = ty → Rep n a fr → ∃ w', ((execOp a.eval o').run P w = .ok .skip w' ∨ ∃ v, (execOp a.eval o').run P w = .ok (.value v) w') ∧ R w'
section
variable {P : Program} {n : NN} {Φ : Exit → Fr → World → Prop} {fr : Fr} {w : World} {ty : TypeId} {R : World → Prop}
theorem WL.su {ops : Array Oper} {rest : List Oper} {o : Op} {pos : String} {aft : Array Edge}
  (hs : Su P n fr o ty w R) (h : ∀ w', R w' → WL P ops n Φ rest fr w') : WL P ops n Φ (⟨none, o, ty, pos, aft, none⟩ :: rest) fr w := fun a ha =>
 wpList_plain rfl fun K hK => by
  obtain ⟨w', hr, hR⟩ := hs a ⟨none, o, ty, pos, aft, none⟩ rfl rfl ha
  unfold Oper.wp
  rcases hr with hr | ⟨v, hr⟩
  ·
   rw [hr]; exact hK _ _ (h w' hR _ ha)
  ·
   rw [hr]; exact hK _ _ (h w' hR _ ha)
theorem RS.su {ops : Array Oper} {S : World → Prop} {fuel : Nat} {listed : Array Bool} {i : Nat} {o : Op} {pos : String} {aft : Array Edge}
  (hi : ops[i]? = some ⟨none, o, ty, pos, aft, none⟩) (hs : Su P n fr o ty w R)
  (h : ∀ w', R w' → S w' ∧ RH P ops S n Φ fuel (listed.setIfInBounds i true) fr w') : RS P ops S n Φ fuel listed i fr w := fun a ha => by
 obtain ⟨w', hr, hR⟩ := hs a ⟨none, o, ty, pos, aft, none⟩ rfl rfl ha
 obtain ⟨h1, h2⟩ := h w' hR
 unfold wpOp
 rw [hi]
 simp only [Region.wanted, if_true]
 refine .inl ?_
 unfold Oper.wp
 rcases hr with hr | ⟨v, hr⟩
 ·
  rw [hr]; exact ⟨h1, h2 _ ha⟩
 ·
  rw [hr]; exact ⟨h1, h2 _ ha⟩
theorem St.makeMap {t : TypeId} : St P n fr (.makeMap t none) ty w (fun v w' => ∃ r, v = .map (some r) ∧ w.heap.size ≤ r ∧ (∀ (β : Type) (me : β → MapEntry), MapAt w' r me ([] : List β) 0) ∧ Ext w w') := fun a o' ho hty ha => by
 refine ⟨.map (some w.heap.size), w.alloc (.map #[] 0), ?_, w.heap.size, rfl, Nat.le_refl _, fun β me => ?_, Chg.alloc _⟩
 ·
  simp [execOp, ho, Instr.makeMap, newObj, Sem.run]
 ·
  exact heap_alloc_new w _
theorem Y.len_map {x : Operand} {t k e : TypeId} {r clock : Nat} {β : Type} {me : β → MapEntry} {l : List β} (hT : P.underlying t = some (.map k e)) (hx : ev fr x = some (.map (some r))) (hm : MapAt w r me l clock) :
  Yw P n fr (.call { callee := .builtin .len, args := #[x], argTypes := #[t] }) ty w (.int .i64 (l.length : Int)) w := fun a o' ho _ ha => by
 have h1 := MapKept.run_getObj_map (P := P) hm
 simp [execOp, ho, resolve, invoke, builtin, ha.ev hx, Builtin.len_, run_underlying hT, h1, goInt]
section keyed
variable {α β : Type} [DecidableEq α] {enc : α → Value} {key : β → α} {me : β → MapEntry} {l : List β} {clock r : Nat} {t k e : TypeId}
theorem Y.lookupOk {x y : Operand} {a : α} {z : Value} (K : KeyEq P k enc) (hme : ∀ e, (me e).key = enc (key e)) (hT : P.underlying t = some (.map k e)) (hz : ∀ w, (zeroValue e).run P w = .ok z w)
  (hx : ev fr x = some (.map (some r))) (hy : ev fr y = some (enc a)) (hm : MapAt w r me l clock) :
  Yw P n fr (.lookup t x y true) ty w (.tuple #[mval me z (mfind key a l 0), .bool (mfind key a l 0).isSome]) w := fun b o' ho _ ha => by
 have h1 := MapKept.run_getObj_map (P := P) hm
 have h2 := run_findKey K w a key me hme l
 have h3 := fun em => K.check w em a
 cases hf : mfind key a l 0 with
 | none => rw [hf] at h2; simp [mval, execOp, ho, ha.ev hx, ha.ev hy, Instr.lookup, run_underlying hT, h1, h3, h2, hz]
 | some p => rw [hf] at h2; simp [mval, execOp, ho, ha.ev hx, ha.ev hy, Instr.lookup, run_underlying hT, h1, h3, h2]
theorem Y.lookup {x y : Operand} {a : α} {z : Value} (K : KeyEq P k enc) (hme : ∀ e, (me e).key = enc (key e)) (hT : P.underlying t = some (.map k e)) (hz : ∀ w, (zeroValue e).run P w = .ok z w)
  (hx : ev fr x = some (.map (some r))) (hy : ev fr y = some (enc a)) (hm : MapAt w r me l clock) :
  Yw P n fr (.lookup t x y false) ty w (mval me z (mfind key a l 0)) w := fun b o' ho _ ha => by
 have h1 := MapKept.run_getObj_map (P := P) hm
 have h2 := run_findKey K w a key me hme l
 have h3 := fun em => K.check w em a
 cases hf : mfind key a l 0 with
 | none => rw [hf] at h2; simp [mval, execOp, ho, ha.ev hx, ha.ev hy, Instr.lookup, run_underlying hT, h1, h3, h2, hz]
 | some p => rw [hf] at h2; simp [mval, execOp, ho, ha.ev hx, ha.ev hy, Instr.lookup, run_underlying hT, h1, h3, h2]
theorem Su.mapNew {x y z : Operand} {a : α} {v : Value} {b : β} (K : KeyEq P k enc) (hme : ∀ e, (me e).key = enc (key e)) (hT : P.underlying t = some (.map k e))
  (hx : ev fr x = some (.map (some r))) (hy : ev fr y = some (enc a)) (hzv : ev fr z = some v) (hm : MapAt w r me l clock) (hf : mfind key a l 0 = none) (hb : me b = { key := enc a, val := v, born := clock }) :
  Su P n fr (.mapUpdate t x y z) ty w (fun w' => MapAt w' r me (l ++ [b]) (clock + 1) ∧ Chg (· = r) w w') := fun c o' ho _ ha => by
 have h1 := MapKept.run_getObj_map (P := P) hm
 have h2 := run_findKey K w a key me hme l
 have h3 := fun em => K.check w em a
 rw [hf] at h2
 refine ⟨{ w with heap := w.heap.setIfInBounds r (.map ((l ++ [b]).map me).toArray (clock + 1)) }, .inl ?_, heap_setBlock hm.lt, chg_setBlock rfl⟩
 have h4 := MapKept.run_setObj_map (P := P) (.map ((l.map me).toArray.push { key := enc a, val := v, born := clock }) (clock + 1)) hm
 simp only [execOp, ho, ha.ev hx, ha.ev hy, ha.ev hzv, Instr.mapUpdate, Sem.run_bind, run_underlying hT, h1, Result.andThen_ok, h3, h2, Option.map_none, h4]
 simp [hb]
end keyed
theorem Y.neq_nilmap {x : Operand} {r : Nat} {t t' k e : TypeId} (hT : P.underlying t = some (.map k e)) (hx : ev fr x = some (.map (some r))) :
  Yw P n fr (.binOp .neq t x (.const (.map none)) t') ty w (.bool true) w := fun a o' ho _ ha => by
 have h1 := ha.ev hx
 have h2 : a.eval (.const (.map none)) = .map none := rfl
 have h3 : ∀ d, (Op.equalIn (d + 1) t (.map (some r)) (.map none)).run P w = .ok false w := fun d => by simp [Op.equalIn, run_underlying hT]
 have h4 : (Op.equal t (.map (some r)) (.map none)).run P w = .ok false w := h3 9999
 simp [execOp, ho, h1, h2, eqGuard, binOp, h4]
end
end Go.Fw
/- Digests as a map's keys. No condition. -/
namespace Go.Fw
open Go.RowKit
theorem mapM_some {α β : Type} {f : α → Option β} : ∀ {l : List α}, (∀ x ∈ l, ∃ y, f x = some y) → ∃ ys, l.mapM f = some ys
 | [], _ => ⟨[], rfl⟩
 | x :: r, h => by
  obtain ⟨y, hy⟩ := h x (by simp)
  obtain ⟨ys, hys⟩ := mapM_some (l := r) fun z hz => h z (by simp [hz])
  exact ⟨y :: ys, by simp [List.mapM_cons, hy, hys]⟩
theorem sameBits_self {n : Nat} : ∀ {cs : List Value}, (∀ u ∈ cs, Instr.sameBits n u u = true) → Instr.sameBits (n + 1) (.agg cs.toArray) (.agg cs.toArray) = true := by
 intro cs h
 simp only [Instr.sameBits, beq_self_eq_true, Bool.true_and]
 rw [List.all_eq_true]
 rintro ⟨x, y⟩ hp
 have hxy : x = y ∧ x ∈ cs := by
  obtain ⟨i, hi⟩ := List.mem_iff_getElem?.1 hp
  rw [List.getElem?_zip_eq_some] at hi
  obtain ⟨h1, h2⟩ := hi
  exact ⟨Option.some.inj (h1.symm.trans h2), List.mem_of_getElem? h1⟩
 obtain ⟨rfl, hx⟩ := hxy
 exact h x hx
end Go.Fw
namespace Go.Proofs.YtfanmpbapabboaaGreatDoor
open Go.RowKit Go.Fw
theorem cells_u8 : Tryz.prog.cellsOf 5 = 1 := by kernel_rfl
theorem cells_dig : Tryz.prog.cellsOf 38 = 32 := by kernel_rfl
theorem keyLits_u8 (D : Nat) (b : UInt8) : Tryz.prog.keyLits (D + 1) 5 [bc b] = some [.int .u8 (b.toNat : Int)] := by
 have hw : (Lit.int .u8 (b.toNat : Int)).wf = true := by
  have := b.toNat_lt
  simp only [Lit.wf, IntKind.min, IntKind.max, IntKind.bits, IntKind.signed]
  simp
  omega
 simp only [Program.keyLits, Tryz.underlying5, bc, hw]
 simp
theorem keyLits_dig (D : Nat) (d : Dig) : ∃ la, Tryz.prog.keyLits (D + 2) 38 (digC d) = some la := by
 obtain ⟨ys, hys⟩ := mapM_some (l := List.range 32) (f := fun i => Tryz.prog.keyLits (D + 1) 5 (((digC d).drop (i * 1)).take 1)) (by
  intro i hi
  rw [List.mem_range] at hi
  have hd := d.2
  have : ((digC d).drop (i * 1)).take 1 = [bc (d.1[i]'om_)] := by
   rw [Nat.mul_one, digC, bytesC, ← List.map_drop, List.drop_eq_getElem_cons om_]
   rfl
  rw [this]
  exact ⟨_, keyLits_u8 D _⟩)
 refine ⟨ys.flatten, ?_⟩
 have e : Tryz.prog.keyLits ((D + 1) + 1) 38 (digC d) = ((List.range 32).mapM fun i => Tryz.prog.keyLits (D + 1) 5 (((digC d).drop (i * 1)).take 1)).map List.flatten := by
  conv => lhs; unfold Program.keyLits
  simp only [Tryz.underlying38, cells_dig, cells_u8, digC_length, if_true]
 rw [show D + 2 = (D + 1) + 1 from rfl, e, hys]
 rfl
theorem keyDig : KeyEq Tryz.prog 38 (fun d : Dig => digV d) where
 eq w a b := eqIn_dig 9998 a b w
 check w em a := by
  obtain ⟨la, hla⟩ := keyLits_dig 3 a
  exact run_checkKey_deep em 9997 3 38 kr_ w 5 (digV a) la (by simp only [Value.formed, Tryz.underlying38, cells_dig]; simp [digC_length]) (by simpa [Value.cells] using hla)
 wide := by rw [Tryz.underlying38]
 same a := sameBits_self (n := 9999) fun u hu => by
  simp only [digC, bytesC, List.mem_map] at hu
  obtain ⟨b, _, rfl⟩ := hu
  simp [bc, Instr.sameBits]
end Go.Proofs.YtfanmpbapabboaaGreatDoor
/- What a store is in memory: its block, its map, its entries. No condition. -/
namespace Go.Fw
def storeC (r n : Nat) : List Value := [.map (some r), .int .i64 (n : Int)]
section
variable {w : World} {a : Addr} {r n : Nat} (h : Mem w a (storeC r n))
include h
theorem Mem.storeStore0 : w.cell? (a.add 0) = some (.map (some r)) := h.cell 0 rfl
theorem Mem.storeStore1 : w.cell? (a.add 1) = some (.int .i64 (n : Int)) := h.cell 1 rfl
end
end Go.Fw
namespace Go.Pl
open Go.Fw
structure Ent where
 k : Dig
 v : Value
 born : Nat
 b : List UInt8
def Ent.me (e : Ent) : MapEntry := { key := digV e.k, val := e.v, born := e.born }
def total (l : List Ent) : Nat := (l.map fun e => e.b.length).sum
theorem total_app (l : List Ent) (e : Ent) : total (l ++ [e]) = total l + e.b.length := by simp [total]
theorem total_le {l : List Ent} {m : Nat} (h : ∀ e ∈ l, e.b.length ≤ m) : total l ≤ l.length * m := by
 induction l with
 | nil => simp [total]
 | cons e r ih =>
  have h1 := h e (by simp)
  have h2 := ih fun x hx => h x (by simp [hx])
  simp only [total, List.map_cons, List.sum_cons, List.length_cons, Nat.succ_mul] at h2 ⊢
  omega
abbrev at_ (l : List Ent) (d : Dig) : Option (Nat × Ent) := mfind Ent.k d l 0
abbrev Unlike (l : List Ent) : Prop := (l.map Ent.k).Nodup
theorem mfind_absent {l : List Ent} {d : Dig} : ∀ {i : Nat}, (∀ e ∈ l, e.k ≠ d) → mfind Ent.k d l i = none := by
 induction l with
 | nil => intro i _; rfl
 | cons x r ih =>
  intro i h
  rw [mfind, if_neg (h x (by simp))]
  exact ih fun e he => h e (by simp [he])
theorem unlike_app {l : List Ent} {e : Ent} (h : Unlike l) (hn : at_ l e.k = none) : Unlike (l ++ [e]) := by
 have := mfind_none hn
 simp only [Unlike, List.map_append, List.map_cons, List.map_nil, List.nodup_append]
 refine ⟨h, by simp, ?_⟩
 intro a ha b hb
 simp at hb; subst hb
 obtain ⟨x, hx, rfl⟩ := List.mem_map.1 ha
 exact this x hx
theorem unlike_erase {l : List Ent} {j : Nat} (h : Unlike l) : Unlike (l.eraseIdx j) := by
 have : (l.eraseIdx j).map Ent.k = (l.map Ent.k).eraseIdx j := ChangeMaps.map_eraseIdx _ _ _
 rw [Unlike, this]
 exact List.Nodup.sublist (List.eraseIdx_sublist _ _) h
theorem erase_none {l : List Ent} {d : Dig} {j : Nat} {e : Ent} (h : Unlike l) (hf : at_ l d = some (j, e)) : at_ (l.eraseIdx j) d = none := by
 obtain ⟨_, hj, hk⟩ := mfind_some hf
 rw [Nat.sub_zero] at hj
 refine mfind_absent fun x hx hxk => ?_
 obtain ⟨i, hi⟩ := List.mem_iff_getElem?.1 hx
 rw [List.getElem?_eraseIdx] at hi
 have hjl := (List.getElem?_eq_some_iff.1 hj).1
 split at hi
 ·
  rename_i hlt
  have hil := (List.getElem?_eq_some_iff.1 hi).1
  have h1 : (l.map Ent.k)[i]? = some d := by simp [hi, hxk]
  have h2 : (l.map Ent.k)[j]? = some d := by simp [hj, hk]
  have := (List.getElem?_inj (by simpa using hil) h).1 (h1.trans h2.symm)
  omega
 ·
  rename_i hge
  have hil := (List.getElem?_eq_some_iff.1 hi).1
  have h1 : (l.map Ent.k)[i + 1]? = some d := by simp [hi, hxk]
  have h2 : (l.map Ent.k)[j]? = some d := by simp [hj, hk]
  have := (List.getElem?_inj (by simpa using hil) h).1 (h1.trans h2.symm)
  omega
end Go.Pl
namespace Go.Proofs.YtfanmpbapabboaaGreatDoor
open Go.RowKit Go.Fw Go.Pl
abbrev TS_ : TypeId := 68
structure StoreAt (w : World) (g r : Nat) (l : List Ent) : Prop where
 blk : Blk w g TS_ (storeC r (total l))
 map : ∃ cl, MapAt w r Ent.me l cl ∧ ∀ e ∈ l, e.born < cl
 born : (l.map Ent.born).Nodup
 vals : ∀ e ∈ l, By w e.v e.b
 low : ∀ e ∈ l, ∀ k, e.v.ownBlock = some k → k ≠ g ∧ k ≠ r ∧ k < w.heap.size
 keys : Unlike l
 few : l.length ≤ 500
 short : ∀ e ∈ l, e.b.length ≤ 131072
 ne : g ≠ r
section
variable {w w' : World} {g r : Nat} {l : List Ent} {S : Nat → Prop}
theorem StoreAt.chg (h : StoreAt w g r l) (hc : Chg S w w') (hg : ¬ S g) (hr : ¬ S r) (hv : ∀ e ∈ l, ∀ k, e.v.ownBlock = some k → ¬ S k) : StoreAt w' g r l where
 blk := h.blk.chg hc hg
 map := by obtain ⟨cl, h1, h2⟩ := h.map; exact ⟨cl, h1.chg hc hr, h2⟩
 born := h.born
 vals e he := (h.vals e he).chg hc fun _ k hk => hv e he k hk
 low e he k hk := by obtain ⟨h1, h2, h3⟩ := h.low e he k hk; exact ⟨h1, h2, Nat.lt_of_lt_of_le h3 hc.size⟩
 keys := h.keys
 few := h.few
 short := h.short
 ne := h.ne
theorem StoreAt.ext (h : StoreAt w g r l) (hc : Ext w w') : StoreAt w' g r l := h.chg hc (fun f => f) (fun f => f) (fun _ _ _ _ f => f)
theorem StoreAt.lt (h : StoreAt w g r l) : g < w.heap.size ∧ r < w.heap.size := ⟨h.blk.lt, by obtain ⟨_, h1, _⟩ := h.map; exact h1.lt⟩
theorem StoreAt.size (h : StoreAt w g r l) : total l ≤ 65536000 := by
 have h1 := total_le h.short
 have h2 := h.few
 have : l.length * 131072 ≤ 500 * 131072 := Nat.mul_le_mul_right _ h2
 omega
end
def getB (l : List Ent) (d : Dig) : List UInt8 := match at_ l d with | some p => p.2.b | none => []
theorem at_none {l : List Ent} {d : Dig} (h : (mfind Ent.k d l 0).isSome = false) : at_ l d = none := by simpa using h
theorem StoreAt.look {w : World} {g r : Nat} {l : List Ent} (h : StoreAt w g r l) (d : Dig) : By w (mval Ent.me (.slice none 0 0) (mfind Ent.k d l 0)) (getB l d) := by
 unfold getB
 show By w _ (match mfind Ent.k d l 0 with | some p => p.2.b | none => [])
 cases hp : mfind Ent.k d l 0 with
 | none => exact Own.by (e := 0) (bs := []) Own.nil
 | some p =>
  obtain ⟨_, hj, _⟩ := mfind_some hp
  exact h.vals _ (List.mem_of_getElem? hj)
theorem StoreAt.push {w w' : World} {g r : Nat} {l : List Ent} {e : Ent} {S : Nat → Prop} (h : StoreAt w g r l) (hc : Chg S w w') (hS : ∀ k, S k → k = g ∨ k = r) (hB : Blk w' g TS_ (storeC r (total (l ++ [e]))))
  (hM : MapAt w' r Ent.me (l ++ [e]) (e.born + 1)) (hb : ∀ x ∈ l, x.born < e.born) (hv : By w' e.v e.b) (hl : ∀ k, e.v.ownBlock = some k → k ≠ g ∧ k ≠ r ∧ k < w'.heap.size) (hn : at_ l e.k = none) (hf : l.length < 500) (hs : e.b.length ≤ 131072) : StoreAt w' g r (l ++ [e]) where
 blk := hB
 map := ⟨_, hM, fun x hx => by
  rcases List.mem_append.1 hx with hx | hx
  ·
   have := hb x hx; omega
  ·
   simp at hx; subst hx; omega⟩
 born := by
  simp only [List.map_append, List.map_cons, List.map_nil, List.nodup_append]
  refine ⟨h.born, by simp, ?_⟩
  intro a ha c hc
  simp at hc; subst hc
  obtain ⟨x, hx, rfl⟩ := List.mem_map.1 ha
  have := hb x hx; omega
 vals x hx := by
  rcases List.mem_append.1 hx with hx | hx
  ·
   exact (h.vals x hx).chg hc fun _ k hk hSk => by have := h.low x hx k hk; have := hS k hSk; omega
  ·
   simp at hx; subst hx; exact hv
 low x hx k hk := by
  rcases List.mem_append.1 hx with hx | hx
  ·
   obtain ⟨h1, h2, h3⟩ := h.low x hx k hk; exact ⟨h1, h2, Nat.lt_of_lt_of_le h3 hc.size⟩
  ·
   simp at hx; subst hx; exact hl k hk
 keys := unlike_app h.keys hn
 few := by simp; omega
 short x hx := by
  rcases List.mem_append.1 hx with hx | hx
  ·
   exact h.short x hx
  ·
   simp at hx; subst hx; exact hs
 ne := h.ne
theorem StoreAt.erase {w w' : World} {g r : Nat} {l : List Ent} {j cl : Nat} {S : Nat → Prop} (h : StoreAt w g r l) (hc : Chg S w w') (hS : ∀ k, S k → k = g ∨ k = r) (hB : Blk w' g TS_ (storeC r (total (l.eraseIdx j))))
  (hM : MapAt w' r Ent.me (l.eraseIdx j) cl) (hb : ∀ x ∈ l, x.born < cl) : StoreAt w' g r (l.eraseIdx j) where
 blk := hB
 map := ⟨_, hM, fun x hx => hb x (List.mem_of_mem_eraseIdx hx)⟩
 born := by
  rw [show (l.eraseIdx j).map Ent.born = (l.map Ent.born).eraseIdx j from ChangeMaps.map_eraseIdx _ _ _]
  exact List.Nodup.sublist (List.eraseIdx_sublist _ _) h.born
 vals x hx := (h.vals x (List.mem_of_mem_eraseIdx hx)).chg hc fun _ k hk hSk => by have := h.low x (List.mem_of_mem_eraseIdx hx) k hk; have := hS k hSk; omega
 low x hx k hk := by obtain ⟨h1, h2, h3⟩ := h.low x (List.mem_of_mem_eraseIdx hx) k hk; exact ⟨h1, h2, Nat.lt_of_lt_of_le h3 hc.size⟩
 keys := unlike_erase h.keys
 few := by have := h.few; have := List.length_eraseIdx_le l j; omega
 short x hx := h.short x (List.mem_of_mem_eraseIdx hx)
 ne := h.ne
theorem sz0_suint8 : (Tryz.prog.info? 40).map (·.size) = some 1 := by kernel_rfl
theorem fo_storeStore0 : FieldOff Tryz.prog TS_ 0 0 := ⟨_, _, 1, Tryz.underlying68, rfl, by kernel_rfl, by decide, rfl⟩
theorem fo_storeStore1 : FieldOff Tryz.prog TS_ 1 1 := ⟨_, _, 1, Tryz.underlying68, rfl, sz_int, by decide, rfl⟩
theorem zero_bytes (w : World) : (zeroValue 40).run Tryz.prog w = .ok (.slice none 0 0) w := by
 have h : (Tryz.prog.info? 40).map (fun i => i.zero) = some (some (.slice none 0 0)) := by kernel_rfl
 cases hi : Tryz.prog.info? 40 with
 | none => simp [hi] at h
 | some i => simp [hi] at h; simp [zeroValue, typeInfo, hi, h]
end Go.Proofs.YtfanmpbapabboaaGreatDoor
/- A store: New, made, Len, Size, Get, Has, walked; slices.Equal at bytes. No condition. -/
namespace Go.Proofs.YtfanmpbapabboaaGreatDoor
open Go.RowKit Go.Fw Go.Pl
theorem eqIn_stp (d : Nat) (a : Addr) (w : World) : (Op.equalIn (d + 1) 32 (.pointer (some a)) (.pointer none)).run Tryz.prog w = .ok false w := by
 rw [Op.equalIn, Sem.run_bind, run_underlying Tryz.underlying32]
 rfl
section
variable {n : NN} {fr : Fr} {w : World} {ty : TypeId} {x y : Operand} {t' : TypeId}
theorem Y.neq_storeStore {a : Addr} (hx : ev fr x = some (.pointer (some a))) (hy : ev fr y = some (.pointer none)) : Yw Tryz.prog n fr (.binOp .neq 32 x y t') ty w (.bool true) w :=
 Y.bin hx hy (by simp [eqGuard]) (by
  simp only [binOp, Op.equal, Sem.run_bind]
  rw [show Op.maxDepth = 9999 + 1 from rfl, eqIn_stp 9999]
  rfl)
end
theorem build_store (r : Nat) (w : World) : (Instr.build TS_ [(0, Value.map (some r))].toArray).run Tryz.prog w = .ok (.agg (storeC r 0).toArray) w := run_build w _ _ _ kr_
abbrev UM := Tryz.underlying66
theorem bytes_part {xs ys : List UInt8} {i : Nat} {a b : UInt8} (ha : xs[i]? = some a) (hb : ys[i]? = some b) (h : (a.toNat : Int) ≠ b.toNat) : xs ≠ ys := by
 rintro rfl; rw [ha] at hb; injection hb with hb; subst hb; exact h rfl
theorem bytes_more {xs ys : List UInt8} {i : Nat} {a b : UInt8} (ht : xs.take i = ys.take i) (ha : xs[i]? = some a) (hb : ys[i]? = some b) (h : ¬ ((a.toNat : Int) ≠ b.toNat)) : xs.take (i + 1) = ys.take (i + 1) := by
 have : a = b := UInt8.toNat_inj.1 om_
 rw [take_succ ha, take_succ hb, ht, this]
theorem bytes_whole {α : Type} {xs ys : List α} {i : Nat} (hl : xs.length = ys.length) (hi : xs.length ≤ i) (ht : xs.take i = ys.take i) : xs = ys := by
 rwa [List.take_of_length_le hi, List.take_of_length_le om_] at ht
def getI (l : List Ent) (d : Dig) : Int := if (at_ l d).isSome then 0 else 5
theorem made_any (g r : Nat) (l : List Ent) (w : World) (hT : StoreAt w g r l) : Calls Tryz.prog 22 #[.pointer (some ⟨g, 0, none⟩)] w (Ret fun v w' => v = .bool true ∧ Ext w w') := by
 have hB0 := hT.blk
 refine calls_of_CW 12 [2] [(0, .pointer (some ⟨g, 0, none⟩))] Tryz.func22 rfl rfl rfl (by simp) args1 ?_
 have hE : Ext w w := Chg.refl
 refine CW.sr fun K1 hK1 => ?_
 refine WL.a rfl ?_
 refine WL.nil (hK1 _ _ ?_); try clear hK1
 refine CW.sr fun K2 hK2 => ?_
 refine WL.m rfl ?_
 refine WL.v (Y.neq_storeStore rfl rfl) ?_
 refine WL.m rfl ?_
 refine WL.know (d := 5) (u := .bool true) rfl (by rfl) ?_
 refine WL.g rfl rfl (Y.move rfl) ?_
 refine WL.g rfl rfl (Y.nilCheck rfl) ?_
 refine WL.g rfl rfl (Y.fieldAddr fo_storeStore0 rfl) ?_
 refine WL.g rfl rfl (Y.load1 Tryz.underlying66 rfl hB0.mem.storeStore0 rfl) ?_
 refine WL.g rfl rfl (Y.neq_nilmap Tryz.underlying66 rfl) ?_
 refine WL.v (Y.pick rfl rfl) ?_
 refine WL.a rfl ?_
 refine WL.nil (hK2 _ _ ?_); try clear hK2
 refine CW.ret ⟨_, rfl, ?_⟩
 exact ⟨rfl, hE⟩
theorem stNew_any (w : World) : Calls Tryz.prog 20 #[] w (Ret fun v w' => ∃ g r, v = .pointer (some ⟨g, 0, none⟩) ∧ w.heap.size ≤ g ∧ w.heap.size ≤ r ∧ StoreAt w' g r [] ∧ Ext w w') := by
 refine calls_of_CW 4 [0] [] Tryz.func20 rfl rfl rfl (by simp) args0 ?_
 have hE : Ext w w := Chg.refl
 refine CW.sr fun K1 hK1 => ?_
 refine WL.a rfl ?_
 refine WL.nil (hK1 _ _ ?_); try clear hK1
 refine CW.sr fun K2 hK2 => ?_
 refine WL.st (St.makeMap) de_ fun v1 w1 hR1 => ?_
 obtain ⟨r, rfl, hr, hMp, hx1⟩ := hR1
 have hz1 := hx1.size
 have hE := hE.thenExt hx1
 refine WL.v (Y.build rfl (build_store r _)) ?_
 refine WL.box rfl rfl de_ fun g3 w2 hx2 hg3 hB3 => ?_
 have hlt3 := hB3.lt; have hz2 := hx2.size
 have hM3 := hB3.mem; have hz2 := hx2.size; have hE := hE.thenExt hx2
 refine WL.a rfl ?_
 refine WL.nil (hK2 _ _ ?_); try clear hK2
 refine CW.ret ⟨_, rfl, ?_⟩
 exact ⟨g3, r, rfl, by omega, by omega, ⟨hB3, ⟨0, (hMp Ent Ent.me).ext hx2, fun e he => (nomatch he)⟩, List.nodup_nil, fun e he => (nomatch he), fun e he => (nomatch he), List.nodup_nil, Nat.zero_le _, fun e he => (nomatch he), (by have := (hMp Ent Ent.me).lt; omega)⟩, hE⟩
theorem stLen_any (g r : Nat) (l : List Ent) (w : World) (hT : StoreAt w g r l) : Calls Tryz.prog 35 #[.pointer (some ⟨g, 0, none⟩)] w (Ret fun v w' => v = .int .i64 (l.length : Int) ∧ Ext w w') := by
 have hB0 := hT.blk
 refine calls_of_CW 11 [2] [(0, .pointer (some ⟨g, 0, none⟩))] Tryz.func35 rfl rfl rfl (by simp) args1 ?_
 have hE : Ext w w := Chg.refl
 refine CW.sr fun K1 hK1 => ?_
 refine WL.a rfl ?_
 refine WL.nil (hK1 _ _ ?_); try clear hK1
 refine CW.seq fun K2 hK2 => ?_
 refine CW.sr fun K3 hK3 => ?_
 refine WL.m rfl ?_
 refine WL.call Tryz.func22 rfl rfl rfl (made_any g r l _ hT) (by simp) ?_; rintro v w1 ⟨rfl, hx1⟩; have hz1 := hx1.size; have hE := hE.thenExt hx1; have hT := hT.ext hx1; have hB0 := hB0.ext hx1
 refine WL.v (Y.not rfl) ?_
 refine WL.nil (hK3 _ _ ?_); try clear hK3
 (first | refine cd_ rfl ?_ ?_ | refine ce_ rfl ?_ ?_ | refine cn_ rfl ?_ ?_ | refine cb_ rfl ?_ ?_) <;> intro ht4
 ·
  -- then
  refine CW.sr fun K5 hK5 => ?_
  refine WL.a rfl ?_
  refine WL.nil (hK5 _ _ ?_); try clear hK5
  refine CW.ret ⟨_, rfl, ?_⟩
  exact absurd (show true = false by assumption) de_
 refine CW.skip ?_
 refine hK2 _ _ ?_; try clear hK2
 refine CW.sr fun K6 hK6 => ?_
 refine WL.m rfl ?_
 refine WL.v (Y.nilCheck rfl) ?_
 refine WL.v (Y.fieldAddr fo_storeStore0 rfl) ?_
 refine WL.v (Y.load1 Tryz.underlying66 rfl hB0.mem.storeStore0 rfl) ?_
 refine WL.v (Y.len_map Tryz.underlying66 rfl hT.map.choose_spec.1) ?_
 refine WL.a rfl ?_
 refine WL.nil (hK6 _ _ ?_); try clear hK6
 refine CW.ret ⟨_, rfl, ?_⟩
 exact ⟨rfl, hE⟩
theorem eqb_any (u v : Value) (xs ys : List UInt8) (w : World) (hu : By w u xs) (hv : By w v ys) : Calls Tryz.prog 43 #[u, v] w (Ret fun r w' => r = .bool (decide (xs = ys)) ∧ Ext w w') := by
 obtain ⟨A, m, c, rfl, hm, hmc, hcm, hxs, _⟩ := hu
 obtain ⟨B, n, d, rfl, hn, hnd, hdm, hys, _⟩ := hv
 unfold maxLen at hcm hdm
 refine calls_of_CW 26 [4] [(0, .slice A m c), (1, .slice B n d)] Tryz.func43 rfl rfl rfl (by simp) args2 ?_
 refine CW.sr fun K1 hK1 => ?_
 refine WL.a rfl ?_
 refine WL.nil (hK1 _ _ ?_); try clear hK1
 refine CW.seq fun K2 hK2 => ?_
 refine CW.sr fun K3 hK3 => ?_
 refine WL.m rfl ?_
 refine WL.v (Y.len_slice Tryz.underlying40 rfl) ?_
 refine WL.m rfl ?_
 refine WL.v (Y.len_slice Tryz.underlying40 rfl) ?_
 refine WL.v (Y.neq rfl rfl) ?_
 refine WL.nil (hK3 _ _ ?_); try clear hK3
 (first | refine cd_ rfl ?_ ?_ | refine ce_ rfl ?_ ?_ | refine cn_ rfl ?_ ?_ | refine cb_ rfl ?_ ?_) <;> intro ht4
 ·
  -- then
  refine CW.sr fun K5 hK5 => ?_
  refine WL.a rfl ?_
  refine WL.nil (hK5 _ _ ?_); try clear hK5
  refine CW.ret ⟨_, rfl, ?_⟩
  exact ⟨by rw [decide_eq_false (fun e => by subst e; omega)], Chg.refl⟩
 refine CW.skip ?_
 refine hK2 _ _ ?_; try clear hK2
 refine CW.seq fun K6 hK6 => ?_
 refine CW.sr fun K7 hK7 => ?_
 refine WL.m rfl ?_
 refine WL.v (Y.len_slice Tryz.underlying40 rfl) ?_
 refine WL.m rfl ?_
 refine WL.nil (hK7 _ _ ?_); try clear hK7
 refine CW.block ?_
 refine CW.loop (X := Nat) (fun x => [(0, .slice A m c), (1, .slice B n d), (12, .int .i64 (m : Int)), (13, .int .i64 (x : Int))]) (fun x w0 => x ≤ m ∧ xs.take x = ys.take x ∧ Ext w w0) (fun x => m - x) 0 Fr.ok ⟨Nat.zero_le _, rfl, Chg.refl⟩ ?_
 intro x w1 hl1
 obtain ⟨hi, htk, hL1⟩ := hl1
 refine CW.sr fun K8 hK8 => ?_
 refine WL.v (Y.lss rfl rfl) ?_
 refine WL.nil (hK8 _ _ ?_); try clear hK8
 refine CW.seq fun K9 hK9 => ?_
 (first | refine cd_ rfl ?_ ?_ | refine ce_ rfl ?_ ?_ | refine cn_ rfl ?_ ?_ | refine cb_ rfl ?_ ?_) <;> intro ht10
 ·
  -- then
  refine CW.skip ?_
  refine hK9 _ _ ?_; try clear hK9
  refine CW.seq fun K11 hK11 => ?_
  refine CW.block ?_
  refine CW.sr fun K12 hK12 => ?_
  refine WL.m rfl ?_
  refine WL.a rfl ?_
  refine WL.nil (hK12 _ _ ?_); try clear hK12
  refine CW.seq fun K13 hK13 => ?_
  obtain ⟨a, ha⟩ : ∃ a, xs[x]? = some a := ⟨_, List.getElem?_eq_getElem om_⟩
  obtain ⟨b, hb⟩ : ∃ b, ys[x]? = some b := ⟨_, List.getElem?_eq_getElem om_⟩
  obtain ⟨aa, rfl, hma⟩ := hxs om_
  obtain ⟨ab, rfl, hmb⟩ := hys om_
  refine CW.quiet (fun wq => Ext w1 wq) kr_ kr_ Chg.drew ?_
  refine QL.m rfl ?_
  refine QL.m rfl ?_
  refine QL.v (fun wq hq => Y.indexAddrN Tryz.underlying40 rfl rfl sz0_uint8 om_) ?_
  refine QL.v (fun wq hq => Y.load1 Tryz.underlying5 rfl ((hma.ext hL1).ext hq (x * 1) _ (by rw [Nat.mul_one]; exact bytesC_get ha)) rfl) ?_
  refine QL.m rfl ?_
  refine QL.m rfl ?_
  refine QL.v (fun wq hq => Y.indexAddrN Tryz.underlying40 rfl rfl sz0_uint8 om_) ?_
  refine QL.v (fun wq hq => Y.load1 Tryz.underlying5 rfl ((hmb.ext hL1).ext hq (x * 1) _ (by rw [Nat.mul_one]; exact bytesC_get hb)) rfl) ?_
  refine QL.v (fun wq hq => Y.neq rfl rfl) ?_
  refine QL.nil fun w2 hx2 => ?_
  refine hK13 _ _ ?_; try clear hK13
  (first | refine cd_ rfl ?_ ?_ | refine ce_ rfl ?_ ?_ | refine cn_ rfl ?_ ?_ | refine cb_ rfl ?_ ?_) <;> intro ht14
  ·
   -- then
   refine CW.sr fun K15 hK15 => ?_
   refine WL.a rfl ?_
   refine WL.nil (hK15 _ _ ?_); try clear hK15
   refine CW.ret ⟨_, rfl, ?_⟩
   exact ⟨by rw [decide_eq_false (bytes_part ha hb (by assumption))], (hL1.thenExt hx2)⟩
  refine CW.skip ?_
  refine hK11 _ _ ?_; try clear hK11
  refine CW.region ?_
  refine WL.v (Y.add rfl rfl o2_) ?_
  refine WL.m rfl ?_
  refine WL.nil ?_
  refine ⟨x + 1, by omega, Fr.ok, by omega, bytes_more htk ha hb (by assumption), (hL1.thenExt hx2)⟩
 refine CW.exit ?_
 refine hK6 _ _ ?_; try clear hK6
 refine CW.sr fun K16 hK16 => ?_
 refine WL.a rfl ?_
 refine WL.nil (hK16 _ _ ?_); try clear hK16
 refine CW.ret ⟨_, rfl, ?_⟩
 exact ⟨by rw [decide_eq_true (bytes_whole om_ om_ htk)], hL1⟩
theorem stGet_any (g r : Nat) (l : List Ent) (d : Dig) (w : World) (hT : StoreAt w g r l) : Calls Tryz.prog 10 #[.pointer (some ⟨g, 0, none⟩), digV d] w (Ret fun v w' => ∃ u, v = .tuple #[u, .int .i64 (getI l d)] ∧ Own w' 5 1 u (bytesC (getB l d)) ∧ (∀ k, u.ownBlock = some k → w.heap.size ≤ k) ∧ Ext w w') := by
 have hB0 := hT.blk
 refine calls_of_CW 25 [4, 5] [(0, .pointer (some ⟨g, 0, none⟩)), (1, digV d)] Tryz.func10 rfl rfl rfl (by simp) args2 ?_
 have hE : Ext w w := Chg.refl
 refine CW.sr fun K1 hK1 => ?_
 refine WL.box rfl rfl de_ fun g3 w1 hx1 hg3 hB3 => ?_
 have hlt3 := hB3.lt; have hz1 := hx1.size
 have hM3 := hB3.mem; have hz1 := hx1.size; have hE := hE.thenExt hx1; have hT := hT.ext hx1; have hB0 := hB0.ext hx1
 refine WL.a rfl ?_
 refine WL.a rfl ?_
 refine WL.nil (hK1 _ _ ?_); try clear hK1
 refine CW.seq fun K2 hK2 => ?_
 refine CW.sr fun K3 hK3 => ?_
 refine WL.m rfl ?_
 refine WL.call Tryz.func22 rfl rfl rfl (made_any g r l _ hT) (by simp) ?_; rintro v w2 ⟨rfl, hx2⟩; have hz2 := hx2.size; have hE := hE.thenExt hx2; have hT := hT.ext hx2; have hB0 := hB0.ext hx2; have hB3 := hB3.ext hx2
 refine WL.v (Y.not rfl) ?_
 refine WL.nil (hK3 _ _ ?_); try clear hK3
 (first | refine cd_ rfl ?_ ?_ | refine ce_ rfl ?_ ?_ | refine cn_ rfl ?_ ?_ | refine cb_ rfl ?_ ?_) <;> intro ht4
 ·
  -- then
  refine CW.sr fun K5 hK5 => ?_
  refine WL.a rfl ?_
  refine WL.a rfl ?_
  refine WL.nil (hK5 _ _ ?_); try clear hK5
  refine CW.ret ⟨_, rfl, ?_⟩
  exact absurd (show true = false by assumption) de_
 refine CW.skip ?_
 refine hK2 _ _ ?_; try clear hK2
 refine CW.seq fun K6 hK6 => ?_
 refine CW.quiet (fun wq => Ext w2 wq) kr_ kr_ Chg.drew ?_
 refine QL.m rfl ?_
 refine QL.v (fun wq hq => Y.nilCheck rfl) ?_
 refine QL.v (fun wq hq => Y.fieldAddr fo_storeStore0 rfl) ?_
 refine QL.v (fun wq hq => Y.load1 Tryz.underlying66 rfl (hB0.ext hq).mem.storeStore0 rfl) ?_
 refine QL.v (fun wq hq => Y.load Tryz.underlying38 rfl (hB3.ext hq).mem (sz_apiDigest _) rfl) ?_
 refine QL.v (fun wq hq => Y.lookupOk keyDig (fun _ => rfl) UM zero_bytes rfl rfl ((hT.ext hq).map.choose_spec.1)) ?_
 refine QL.m rfl ?_
 refine QL.v (fun wq hq => Y.extract rfl rfl) ?_
 refine QL.v (fun wq hq => Y.extract rfl rfl) ?_
 refine QL.a rfl ?_
 refine QL.a rfl ?_
 refine QL.nil fun w3 hx3 => ?_
 have hz3 := hx3.size
 have hE := hE.thenExt hx3
 have hT := hT.ext hx3
 have hB0 := hB0.ext hx3
 have hB3 := hB3.ext hx3
 refine hK6 _ _ ?_; try clear hK6
 refine CW.seq fun K7 hK7 => ?_
 refine CW.sr fun K8 hK8 => ?_
 refine WL.m rfl ?_
 refine WL.v (Y.not rfl) ?_
 refine WL.nil (hK8 _ _ ?_); try clear hK8
 (first | refine cd_ rfl ?_ ?_ | refine ce_ rfl ?_ ?_ | refine cn_ rfl ?_ ?_ | refine cb_ rfl ?_ ?_) <;> intro ht9
 ·
  -- then
  refine CW.sr fun K10 hK10 => ?_
  refine WL.a rfl ?_
  refine WL.a rfl ?_
  refine WL.nil (hK10 _ _ ?_); try clear hK10
  refine CW.ret ⟨_, rfl, ?_⟩
  have hn := at_none (l := l) (d := d) (by assumption)
  exact ⟨_, by rw [getI, hn]; rfl, by rw [getB, hn]; exact Own.nil, fun k hk => (by cases hk), hE⟩
 refine CW.skip ?_
 refine hK7 _ _ ?_; try clear hK7
 refine CW.sr fun K11 hK11 => ?_
 refine WL.st (St.buildSlice0 Tryz.underlying40 sz_uint8) de_ fun v22 w4 hR4 => ?_
 obtain ⟨g22, rfl, hg22, hO22, hx4⟩ := hR4
 have hz4 := hx4.size
 have hE := hE.thenExt hx4
 have hT := hT.ext hx4
 obtain ⟨p, hp⟩ : ∃ p, at_ l d = some p := Option.isSome_iff_exists.1 (by assumption)
 obtain ⟨_, hj, _⟩ := mfind_some hp
 have hel := List.mem_of_getElem? hj
 have hv := hT.vals _ hel
 have hsh := hT.short _ hel
 obtain ⟨Av, mv, cv, hev⟩ := hv.lens
 rw [hev] at hv
 have hvl := hv.len.1
 rw [show mfind Ent.k d l 0 = some p from hp]
 refine WL.m rfl ?_
 refine WL.st (St.app (xs := []) (ys := p.2.b) (xv := .slice Av mv cv) Tryz.underlying40 Tryz.underlying40 ai_u8 rfl (by rw [← hev]; rfl) hO22 (Src.by hv) (by simp only [List.length_nil]; omega)) de_ fun v24 w5 hR5 => ?_
 have hfr : ∀ k, v24.ownBlock = some k → w.heap.size ≤ k := by
  rcases hR5.2.2 with h | h
  ·
   intro k hk; rw [h] at hk; simp [Value.ownBlock] at hk; omega
  ·
   intro k hk; have := h k hk; omega
 have hE := hE.step hR5.2.1 (fun k h => by simp [Value.ownBlock] at h; omega)
 refine WL.a rfl ?_
 refine WL.a rfl ?_
 refine WL.nil (hK11 _ _ ?_); try clear hK11
 refine CW.ret ⟨_, rfl, ?_⟩
 exact ⟨_, by rw [getI, hp]; rfl, by rw [getB, hp]; simpa using hR5.1, hfr, hE⟩
end Go.Proofs.YtfanmpbapabboaaGreatDoor
/- rem and quo of naturals, slices of strings, as rules. No condition; no program. -/
namespace Go.Fw
open Go.RowKit
section
variable {P : Program} {n : NN} {fr : Fr} {w : World} {ty : TypeId}
theorem Y.remN {x y : Operand} {k : IntKind} {p q : Nat} {t t' : TypeId} (hx : ev fr x = some (.int k (p : Int))) (hy : ev fr y = some (.int k (q : Int))) (h : q ≠ 0) : Yw P n fr (.binOp .rem t x y t') ty w (.int k ((p % q : Nat) : Int)) w := Y.rem hx hy om_
theorem Y.quoN {x y : Operand} {p q : Nat} {t t' : TypeId} (hx : ev fr x = some (.int .i64 (p : Int))) (hy : ev fr y = some (.int .i64 (q : Int))) (h : q ≠ 0) (hp : p ≤ 9223372036854775807 := by omega) : Yw P n fr (.binOp .quo t x y t') ty w (.int .i64 ((p / q : Nat) : Int)) w := by
 have h1 := Y.quo (P := P) (n := n) (w := w) (ty := ty) (t := t) (t' := t') hx hy om_
 have e : IntKind.i64.wrap ((p : Int).tdiv (q : Int)) = ((p / q : Nat) : Int) := by
  rw [← Int.ofNat_tdiv]
  have h2 := Nat.div_le_self p q
  generalize p / q = r at h2
  exact wrap_i64_in o2_
 rwa [e] at h1
theorem Y.slice_str {x lo hi : Operand} {s : ByteArray} {t : TypeId} {i j : Nat} {ki kj : IntKind} {zi zj : Int} (hT : P.underlying t = some .string) (hx : ev fr x = some (.string s)) (hlo : ev fr lo = some (.int ki zi)) (hhi : ev fr hi = some (.int kj zj)) (hi' : zi = (i : Int)) (hj' : zj = (j : Int)) (h1 : i ≤ j) (h2 : j ≤ s.size) :
  Yw P n fr (.slice t x (some lo) (some hi) none) ty w (.string (s.extract i j)) w := fun b o' ho _ ha => by
 subst hi'; subst hj'
 have e1 : (0 : Int) ≤ (i : Int) := by omega
 have e2 : (0 : Int) ≤ (j : Int) := by omega
 simp [execOp, ho, ha.ev hx, ha.ev hlo, ha.ev hhi, Instr.sliceAt, Instr.slice, run_underlying hT, Instr.sliceBounds, Instr.sliceBound, asIntOf, e1, e2, h1, h2]
end
end Go.Fw
/- SHA-256's small functions, walked: RotateLeft32, right, the reference's turn, digit, word. No condition. -/
namespace Go.Proofs.YtfanmpbapabboaaGreatDoor
open Go.RowKit Go.Fw Go.Pl
theorem rot_a : ∀ n : Nat, n < 32 → 1 ≤ n → IntKind.u64.wrap ((BitVec.ofInt IntKind.u64.bits (IntKind.u64.wrap (IntKind.i64.wrap (0 - (n : Int)))) &&& BitVec.ofInt IntKind.u64.bits 31).toNat : Int) = ((32 - n : Nat) : Int) := by decide +kernel
theorem rot_b : ∀ n : Nat, n < 32 → 1 ≤ n → IntKind.u64.wrap (32 - ((32 - n : Nat) : Int)) = (n : Int) := by decide +kernel
theorem rot_c : ∀ n : Nat, n < 32 → 1 ≤ n → IntKind.u64.wrap (32 - (n : Int)) = ((32 - n : Nat) : Int) := by decide +kernel
theorem dig_a : ∀ n : Nat, n < 256 → 48 ≤ n → n ≤ 57 → IntKind.i64.wrap (IntKind.u8.wrap ((n : Int) - 48)) = ((n - 48 : Nat) : Int) := by decide +kernel
theorem dig_b : ∀ n : Nat, n < 256 → 97 ≤ n → n ≤ 102 → IntKind.i64.wrap (IntKind.u8.wrap ((n : Int) - 97)) = ((n - 97 : Nat) : Int) := by decide +kernel
theorem rotl_any (x : UInt32) (n : Nat) (w : World) (h1 : 1 ≤ n) (h2 : n < 32) : Calls Tryz.prog 106 #[wd x, .int .i64 (IntKind.i64.wrap (0 - (n : Int)))] w (Ret fun v w' => v = wd (rotr x n) ∧ Ext w w') := by
 refine calls_of_CW 17 [4] [(0, wd x), (1, .int .i64 (IntKind.i64.wrap (0 - (n : Int))))] Tryz.func106 rfl rfl rfl (by simp) args2 ?_
 have hE : Ext w w := Chg.refl
 refine CW.sr fun K1 hK1 => ?_
 refine WL.a rfl ?_
 refine WL.nil (hK1 _ _ ?_); try clear hK1
 refine CW.sr fun K2 hK2 => ?_
 refine WL.m rfl ?_
 refine WL.v (Y.conv_int Tryz.underlying3 Tryz.underlying117 rfl) ?_
 refine WL.v (Y.and_k rfl rfl (rot_a n h2 h1)) ?_
 refine WL.a rfl ?_
 refine WL.nil (hK2 _ _ ?_); try clear hK2
 refine CW.sr fun K3 hK3 => ?_
 refine WL.m rfl ?_
 refine WL.m rfl ?_
 refine WL.v (Y.shlW (32 - n) rfl rfl rfl om_) ?_
 refine WL.m rfl ?_
 refine WL.m rfl ?_
 refine WL.v (Y.sub_k rfl rfl) ?_
 refine WL.v (Y.shrW n rfl rfl (rot_b n h2 h1) om_) ?_
 refine WL.v (Y.orW rfl rfl) ?_
 refine WL.a rfl ?_
 refine WL.nil (hK3 _ _ ?_); try clear hK3
 refine CW.ret ⟨_, rfl, ?_⟩
 exact ⟨by rw [rotr, UInt32.or_comm], hE⟩
theorem rightW_any (x : UInt32) (n : Nat) (w : World) (h1 : 1 ≤ n) (h2 : n < 32) : Calls Tryz.prog 99 #[wd x, .int .i64 (n : Int)] w (Ret fun v w' => v = wd (rotr x n) ∧ Ext w w') := by
 refine calls_of_CW 9 [4] [(0, wd x), (1, .int .i64 (n : Int))] Tryz.func99 rfl rfl rfl (by simp) args2 ?_
 have hE : Ext w w := Chg.refl
 refine CW.sr fun K1 hK1 => ?_
 refine WL.a rfl ?_
 refine WL.nil (hK1 _ _ ?_); try clear hK1
 refine CW.sr fun K2 hK2 => ?_
 refine WL.m rfl ?_
 refine WL.m rfl ?_
 refine WL.v (Y.neg rfl) ?_
 refine WL.call Tryz.func106 rfl rfl rfl (rotl_any x n _ h1 h2) (by simp) ?_; rintro v w1 ⟨rfl, hx1⟩; have hz1 := hx1.size; have hE := hE.thenExt hx1
 refine WL.a rfl ?_
 refine WL.nil (hK2 _ _ ?_); try clear hK2
 refine CW.ret ⟨_, rfl, ?_⟩
 exact ⟨rfl, hE⟩
theorem turn_any (x : UInt32) (n : Nat) (w : World) (h1 : 1 ≤ n) (h2 : n < 32) : Calls Tryz.prog 98 #[wd x, .int .u64 (n : Int)] w (Ret fun v w' => v = wd (rotr x n) ∧ Ext w w') := by
 refine calls_of_CW 13 [4] [(0, wd x), (1, .int .u64 (n : Int))] Tryz.func98 rfl rfl rfl (by simp) args2 ?_
 have hE : Ext w w := Chg.refl
 refine CW.sr fun K1 hK1 => ?_
 refine WL.a rfl ?_
 refine WL.nil (hK1 _ _ ?_); try clear hK1
 refine CW.sr fun K2 hK2 => ?_
 refine WL.m rfl ?_
 refine WL.m rfl ?_
 refine WL.v (Y.shrW n rfl rfl rfl om_) ?_
 refine WL.m rfl ?_
 refine WL.m rfl ?_
 refine WL.v (Y.sub_k rfl rfl) ?_
 refine WL.v (Y.shlW (32 - n) rfl rfl (rot_c n h2 h1) om_) ?_
 refine WL.v (Y.orW rfl rfl) ?_
 refine WL.a rfl ?_
 refine WL.nil (hK2 _ _ ?_); try clear hK2
 refine CW.ret ⟨_, rfl, ?_⟩
 exact ⟨rfl, hE⟩
theorem digit_any (c : UInt8) (w : World) : Calls Tryz.prog 97 #[.int .u8 (c.toNat : Int)] w (Ret fun v w' => v = .int .i64 (digN c : Int) ∧ Ext w w') := by
 have hc := c.toNat_lt
 refine calls_of_CW 22 [2] [(0, .int .u8 (c.toNat : Int))] Tryz.func97 rfl rfl rfl (by simp) args1 ?_
 have hE : Ext w w := Chg.refl
 refine CW.sr fun K1 hK1 => ?_
 refine WL.a rfl ?_
 refine WL.nil (hK1 _ _ ?_); try clear hK1
 refine CW.seq fun K2 hK2 => ?_
 refine CW.seq_test 8 (48 ≤ c.toNat ∧ c.toNat ≤ 57) ?_ ?_
 ·
  refine CW.region ?_
  refine WL.m rfl ?_
  refine WL.v (Y.geq rfl rfl) ?_
  refine WL.m rfl ?_
  (first | refine WL.casesD (d := 5) rfl ?_ ?_ | refine WL.casesND (d := 5) rfl ?_ ?_ | refine WL.cases (d := 5) rfl ?_ ?_) <;> intro hg5
  ·
   -- t5 = T
   refine WL.g rfl rfl (Y.move rfl) ?_
   refine WL.g rfl rfl (Y.leq rfl rfl) ?_
   refine WL.v (Y.pick rfl rfl) ?_
   refine WL.nil ⟨⟨_, rfl, ?_⟩, rfl, Fr.okp⟩
   exact tst_ok
  ·
   -- t5 = F
   refine WL.o rfl rfl ?_
   refine WL.o rfl rfl ?_
   refine WL.v (Y.pick rfl rfl) ?_
   refine WL.nil ⟨⟨_, rfl, ?_⟩, rfl, Fr.okp⟩
   exact tst_ok
 (first | refine cd_ rfl ?_ ?_ | refine ce_ rfl ?_ ?_ | refine cn_ rfl ?_ ?_ | refine cb_ rfl ?_ ?_) <;> intro ht3
 ·
  -- then
  refine CW.sr fun K4 hK4 => ?_
  refine WL.m rfl ?_
  refine WL.v (Y.sub_k rfl rfl) ?_
  refine WL.v (Y.conv_int Tryz.underlying5 Tryz.underlying3 rfl) ?_
  refine WL.a rfl ?_
  refine WL.nil (hK4 _ _ ?_); try clear hK4
  refine CW.ret ⟨_, rfl, ?_⟩
  exact ⟨by rw [dig_a _ hc om_ om_, digN, if_pos om_], hE⟩
 refine CW.skip ?_
 refine hK2 _ _ ?_; try clear hK2
 refine CW.seq fun K5 hK5 => ?_
 refine CW.seq_test 17 (97 ≤ c.toNat ∧ c.toNat ≤ 102) ?_ ?_
 ·
  refine CW.region ?_
  refine WL.m rfl ?_
  refine WL.v (Y.geq rfl rfl) ?_
  refine WL.m rfl ?_
  (first | refine WL.casesD (d := 14) rfl ?_ ?_ | refine WL.casesND (d := 14) rfl ?_ ?_ | refine WL.cases (d := 14) rfl ?_ ?_) <;> intro hg14
  ·
   -- t14 = T
   refine WL.g rfl rfl (Y.move rfl) ?_
   refine WL.g rfl rfl (Y.leq rfl rfl) ?_
   refine WL.v (Y.pick rfl rfl) ?_
   refine WL.nil ⟨⟨_, rfl, ?_⟩, rfl, Fr.okp⟩
   exact tst_ok
  ·
   -- t14 = F
   refine WL.o rfl rfl ?_
   refine WL.o rfl rfl ?_
   refine WL.v (Y.pick rfl rfl) ?_
   refine WL.nil ⟨⟨_, rfl, ?_⟩, rfl, Fr.okp⟩
   exact tst_ok
 (first | refine cd_ rfl ?_ ?_ | refine ce_ rfl ?_ ?_ | refine cn_ rfl ?_ ?_ | refine cb_ rfl ?_ ?_) <;> intro ht6
 ·
  -- then
  refine CW.sr fun K7 hK7 => ?_
  refine WL.m rfl ?_
  refine WL.v (Y.sub_k rfl rfl) ?_
  refine WL.v (Y.conv_int Tryz.underlying5 Tryz.underlying3 rfl) ?_
  rw [dig_b _ hc om_ om_]
  refine WL.v (Y.add rfl rfl o2_) ?_
  refine WL.a rfl ?_
  refine WL.nil (hK7 _ _ ?_); try clear hK7
  refine CW.ret ⟨_, rfl, ?_⟩
  exact ⟨by rw [digN, if_neg om_, if_pos om_]; simp, hE⟩
 refine CW.skip ?_
 refine hK5 _ _ ?_; try clear hK5
 refine CW.sr fun K8 hK8 => ?_
 refine WL.a rfl ?_
 refine WL.nil (hK8 _ _ ?_); try clear hK8
 refine CW.ret ⟨_, rfl, ?_⟩
 exact ⟨by rw [digN, if_neg om_, if_neg om_]; rfl, hE⟩
theorem word_any (s : ByteArray) (i : Nat) (w : World) (hi : 8 * i + 8 ≤ s.size) (hs : s.size ≤ maxLen) : Calls Tryz.prog 73 #[.string s, .int .i64 (i : Int)] w (Ret fun v w' => v = wd (wordL s.toList i 8) ∧ Ext w w') := by
 unfold maxLen at hs
 have hsl := toList_length s
 refine calls_of_CW 25 [4] [(0, .string s), (1, .int .i64 (i : Int))] Tryz.func73 rfl rfl rfl (by simp) args2 ?_
 have hE : Ext w w := Chg.refl
 refine CW.sr fun K1 hK1 => ?_
 refine WL.a rfl ?_
 refine WL.nil (hK1 _ _ ?_); try clear hK1
 refine CW.sr fun K2 hK2 => ?_
 refine WL.a rfl ?_
 refine WL.nil (hK2 _ _ ?_); try clear hK2
 refine CW.seq fun K3 hK3 => ?_
 refine CW.sr fun K4 hK4 => ?_
 refine WL.m rfl ?_
 refine WL.v (Y.mul rfl rfl o2_) ?_
 refine WL.a rfl ?_
 refine WL.nil (hK4 _ _ ?_); try clear hK4
 refine CW.block ?_
 refine CW.loop (X := Nat) (fun x => [(0, .string s), (1, .int .i64 (i : Int)), (5, wd (wordL s.toList i x)), (6, .int .i64 ((8 * i + x : Nat) : Int))]) (fun x w0 => x ≤ 8 ∧ Ext w w0) (fun x => 8 - x) 0 (by first | exact Fr.le.nil | repeat (first | exact Fr.le.nil | refine Fr.le.cons rfl ?_)) ⟨Nat.zero_le _, hE⟩ ?_
 intro x w1 hl1
 obtain ⟨hx, hE⟩ := hl1
 refine CW.seq fun K5 hK5 => ?_
 refine CW.sr fun K6 hK6 => ?_
 refine WL.m rfl ?_
 refine WL.m rfl ?_
 refine WL.v (Y.mul rfl rfl o2_) ?_
 refine WL.v (Y.add rfl rfl o2_) ?_
 refine WL.v (Y.lss rfl rfl) ?_
 refine WL.nil (hK6 _ _ ?_); try clear hK6
 (first | refine cd_ rfl ?_ ?_ | refine ce_ rfl ?_ ?_ | refine cn_ rfl ?_ ?_ | refine cb_ rfl ?_ ?_) <;> intro ht7
 ·
  -- then
  refine CW.skip ?_
  refine hK5 _ _ ?_; try clear hK5
  refine CW.seq fun K8 hK8 => ?_
  refine CW.block ?_
  refine CW.region ?_
  refine WL.m rfl ?_
  refine WL.v (Y.mulW (p := 16) rfl rfl) ?_
  refine WL.m rfl ?_
  refine WL.m rfl ?_
  refine WL.v (Y.index_string (i := (8 * i + x)) Tryz.underlying9 rfl rfl om_) ?_
  refine WL.call Tryz.func97 rfl rfl rfl (digit_any _ _) (by simp) ?_; rintro v w2 ⟨rfl, hx2⟩; have hz2 := hx2.size; have hE := hE.thenExt hx2
  refine WL.v (Y.convNW Tryz.underlying3 Tryz.underlying137 rfl) ?_
  refine WL.v (Y.addW rfl rfl) ?_
  refine WL.a rfl ?_
  refine WL.nil (hK8 _ _ ?_); try clear hK8
  refine CW.region ?_
  refine WL.m rfl ?_
  refine WL.v (Y.add rfl rfl o2_) ?_
  refine WL.a rfl ?_
  refine WL.nil ?_
  have e1 : wordL s.toList i (x + 1) = 16 * wordL s.toList i x + UInt32.ofNat (digN s[8 * i + x]) := by rw [wordL, List.getD_eq_getElem?_getD, get_toList om_]; rfl
  have e2 : ((8 * i + (x + 1) : Nat) : Int) = ((8 * i + x : Nat) : Int) + 1 := by omega
  refine ⟨x + 1, by show 8 - (x + 1) < 8 - x; omega, ?_, by show x + 1 ≤ 8; omega, hE⟩
  show Fr.le [(0, .string s), (1, .int .i64 (i : Int)), (5, wd (wordL s.toList i (x + 1))), (6, .int .i64 ((8 * i + (x + 1) : Nat) : Int))] _
  rw [e1, e2]
  exact Fr.ok
 refine CW.exit ?_
 refine hK3 _ _ ?_; try clear hK3
 refine CW.sr fun K9 hK9 => ?_
 refine WL.m rfl ?_
 refine WL.a rfl ?_
 refine WL.nil (hK9 _ _ ?_); try clear hK9
 refine CW.ret ⟨_, rfl, ?_⟩
 exact ⟨by rw [show x = 8 by omega], hE⟩
end Go.Proofs.YtfanmpbapabboaaGreatDoor
