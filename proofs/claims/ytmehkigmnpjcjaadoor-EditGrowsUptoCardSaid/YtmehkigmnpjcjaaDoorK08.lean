/- Parts of a proof: what its last text leans on. No condition. -/
import Derived.Test.YtmehkigmnpjcjaaDoorChecked
import Derived.Test.YtmehkigmnpjcjaaDoorRows
import Derived.Lib.LaidTab
import Derived.LaidHandle
import Derived.Stop.Joined
import Derived.Deep.DeepHandedRow
import Derived.MapKept
import Derived.WideKeyRuns
import Derived.ChangeMaps4
import Derived.DeepKeys3
import Derived.Shelf.SlSortCmp.NoneTotal
import Derived.Test.YtmehkigmnpjcjaaDoorProg
import Derived.Test.YtmehkigmnpjcjaaDoorK02
import Derived.Test.YtmehkigmnpjcjaaDoorK03
import Derived.Test.YtmehkigmnpjcjaaDoorK04
import Derived.Test.YtmehkigmnpjcjaaDoorK06
import Derived.Test.YtmehkigmnpjcjaaDoorK07
set_option linter.unusedSimpArgs false
set_option linter.unusedVariables false
/- The api's types as arguments of this program: closed facts. No condition. -/
namespace Go.Proofs.YtmehkigmnpjcjaaDoor
open Go.RowKit Go.Fw Go.WideShapes Go.ChangeShapes
theorem own0 : ownKnob Tryd.prog.godebug = none := by kernel_rfl
theorem laidOut0 : laidOutB Tryd.prog = true := by kernel_rfl
theorem rd_dig : RdW Tryd.prog 36 (fun _ cs => ∃ d, cs = digC d) := RdW.dig Tryd.underlying36 Tryd.underlying5 kr_ kr_
theorem rd_ref : RdW Tryd.prog 60 (fun _ cs => ∃ r, cs = refC r ∧ InI64 r.n) :=
 RdW.ref Tryd.underlying60 kr_ (RdW.bool Tryd.underlying4) rd_dig (RdW.int Tryd.underlying3) rfl rfl rfl kr_ kr_ kr_
theorem rd_op : RdW Tryd.prog 62 (fun _ cs => ∃ x, cs = opC x ∧ InI64 x.kind ∧ InI64 x.at_.n) :=
 RdW.op Tryd.underlying62 kr_ (RdW.int Tryd.underlying3) (RdW.bool Tryd.underlying4) rd_ref (RdW.u8 Tryd.underlying5) rfl rfl rfl rfl kr_ kr_ kr_ kr_
theorem bytes_op : Tryd.prog.bytesOf 62 = 72 := by kernel_rfl
theorem rd_com : RdW Tryd.prog 29 (fun w cs => ∃ c, ComIn w (.agg cs.toArray) c) :=
 RdW.com Tryd.underlying29 kr_ Tryd.underlying25 kr_ kr_ rd_dig Tryd.underlying9 Tryd.underlying9 Tryd.underlying27 kr_ bytes_op rd_op
  rfl rfl rfl rfl kr_ kr_ kr_ kr_
section
variable {H : Type} {en : TypeId × Value → H} {w : World} {v : Value} {d : DataW H} {ps : List MemPlace} {base : Nat}
end
end Go.Proofs.YtmehkigmnpjcjaaDoor
/- What a row of this seat lists ('digest.keys'), as the contracts want it; a world that meets it. No condition. -/
namespace Go.Fw
open Go.RowKit Go.WideShapes Go.ChangeShapes Go.ChangeAt Go.Deep
section
variable {H : Type} {enc : TypeId × Value → H}
theorem mem_of_tab {P : Program} {W : World} {name : String} {k : IntKind} {zs : List Int} {g : Nat} (h : Lib.TabIs P W name k zs) (hg : P.globalNamed name = some g) : Mem W ⟨g, 0, none⟩ (zs.map fun z => Value.int k z) := fun j v hj => by
 have hjl : j < zs.length := by simpa using (List.getElem?_eq_some_iff.1 hj).1
 have e : (⟨g, 0, none⟩ : Addr).add j = ⟨g, j, none⟩ := by unfold Addr.add; split <;> simp_all
 rw [e, h.cell hg j hjl]
 have : zs[j]? = some (zs.getD j 0) := by simp [List.getD, hjl]
 rw [List.getElem?_map, this] at hj
 simpa using hj
end
end Go.Fw
namespace Go.Proofs.YtmehkigmnpjcjaaDoor
open Go.RowKit Go.Fw Go.Pl
theorem keysT : (Tryd.prog.globals[0]?).map (·.type) = some 162 := by kernel_rfl
theorem keysNamed : Tryd.prog.globalNamed "recension/digest.keys" = some 0 := by kernel_rfl
theorem keys_cells32 : Tryd.prog.cellsOf 145 = 1 := by kernel_rfl
theorem keys_cellsK : Tryd.prog.cellsOf 162 = 64 := by kernel_rfl
theorem keys_laid : (Rows.laid_recension_digest_keys : DataW Unit) = Lib.tabData .u32 (keysL.map fun x => (x.toNat : Int)) := by kernel_rfl
abbrev laidL : List (String × DataW Unit) := [("recension/digest.keys", Rows.laid_recension_digest_keys)]
theorem keys_of_laid {W : World} (h : laidMetH Tryd.prog laidL W) : Mem W ⟨0, 0, none⟩ (wds keysL) := by
 have h' : laidMet Tryd.prog laidL W := h
 unfold laidL at h'
 rw [keys_laid] at h'
 have hT := Lib.tabIs_of_head keysNamed keysT Tryd.underlying162 Tryd.underlying145 keys_cells32 keys_cellsK h'
 have := mem_of_tab hT keysNamed
 rw [List.map_map] at this
 exact this
noncomputable def laidWorld (os : Os) : World :=
 let w0 := World.holding Tryd.prog os ⟨#[], #[], []⟩
 { w0 with heap := w0.heap.modify 0 fun
   | .cells _ t frozen => .cells (wds keysL).toArray t frozen
   | o => o }
end Go.Proofs.YtmehkigmnpjcjaaDoor
/- From a contract to a row that lists variables and whose specification bears a condition. No condition; no program. -/
namespace Go.Fw
open Go.RowKit Go.WideShapes Go.ChangeShapes Go.ChangeAt Go.Deep
section
variable {H : Type} {enc : TypeId × Value → H}
theorem law_lifted_row {C : Checked} {os : Os} {f : FuncId} {fn : Func} {s : OpenSpec} {c : ChangeSpec} {k : (H : Type) → List (DataW H) → Bool} (hk : s.cond = some k) {F : Stop.Interp} (hat : s.at F = c) {laid : List (String × DataW Unit)} {conds : List PathCond} {apart fresh handsOn again : Bool} {tb : TypeId}
  (own : ownKnob C.prog.godebug = none) (started : os.Started) (noInit : C.prog.inits.idxOf? f = none) (hfn : C.prog.funcs[f]? = some fn)
  (witness : ∃ (w : World) (tape : Tape) (i : Input), w.os = os ∧ (w.forCall tape i).Shaped C.prog ∧ i.vars = [] ∧ Input.okWide C.prog (w.forCall tape i) .any w.heap.size f i ∧
   s.preRow enc C.prog fn conds apart laid (w.forCall tape i).memory i.args ∧ ({} : Assume).holds C.prog (lone (Frame.enter C.prog f i.args .normal) [] (w.forCall tape i)))
  (hl : laidOutB C.prog = true) (hr : fn.params.toList.all (fun t => C.prog.readableRec t && decide (t < C.prog.types.size)) = true)
  (hres : fn.resultTypes = #[tb]) (hb : C.prog.underlying tb = some .bool) (hvars : s.vars = []) (hcv : c.vars = []) (hbv : s.bare.plain.varTypes C.prog = [])
  (hspec : ∀ ds : List (DataW H), ds.length = fn.params.toList.length → c.fn H ds = { results := [.lit (.bool true)], args := ds })
  (contract : ∀ (W : World) (base : Nat) (args : Array Value) (ds : List (DataW H)) (ps : List MemPlace),
   (∀ (j : Nat) t v, fn.params[j]? = some t → args[j]? = some v → Value.okWide C.prog W .any base t v) →
   DataW.TrodAll enc C.prog W 0 (fun _ => true) true fn.params.toList args.toList ds ps → (∀ p ∈ ps, p.block < W.heap.size) →
   (DataW.weightsEach C.prog fn.params.toList ds).all (· ≤ reachBytes) = true → W.noneFrozen ps → k H ds = true → laidMetH C.prog laid W →
   Calls C.prog f args W (Ret fun v W' => v = .bool true ∧ Ext W W')) :
  ReturnsInHanded {} C os f .any (s.preRow enc C.prog fn conds apart laid) ((s.at F).post enc C.prog fn apart fresh handsOn again) := by
 refine returnsInHanded_of_row own started noInit hfn witness ?_
 intro W base args ds gs before hval hW _ hkk hsz hLL _ _
 have hkk := hkk k hk
 rw [hat]
 rw [hvars] at hW
 have hW' : DataW.Whole enc C.prog fn.params.toList c.vars apart W args.toList ds gs before := by rw [hcv]; exact hW
 have hlt := hW.lt
 obtain ⟨p, q, hA, hV, rfl, hfz, _⟩ := hW
 obtain ⟨rfl, rfl⟩ := trodVars_none hV
 rw [hbv] at hsz
 simp only [List.append_nil] at hsz hW' hlt hfz hkk
 have hlen : ds.length = fn.params.toList.length := by
  have key : ∀ (ts : List TypeId) (vs : List Value) (ds : List (DataW H)) (ps : List MemPlace), DataW.TrodAll enc C.prog W 0 (fun _ => true) true ts vs ds ps → ds.length = ts.length := by
   intro ts
   induction ts with
   | nil => intro vs ds ps h; obtain ⟨_, rfl, _⟩ := trodAll_nil h; rfl
   | cons t ts ih => intro vs ds ps h; obtain ⟨_, _, _, _, _, _, _, rfl, _, _, h2⟩ := trodAll_cons h; simp [ih _ _ _ h2]
  exact key _ _ _ _ hA
 refine (contract W base args ds p hval hA (fun x hx => hlt x hx) hsz hfz hkk hLL).mono fun e W' he => ?_
 cases e with
 | returned v =>
  obtain ⟨rfl, hx⟩ := he
  have hs := hspec ds hlen
  have hbel := hx.below
  have hrr : ∀ t ∈ fn.params.toList, C.prog.readableRec t = true ∧ t < C.prog.types.size := fun t ht => by
   have := List.all_eq_true.1 hr t ht
   simpa using this
  refine ⟨_, rfl, post_below (pa := p) (pv := []) hW' (fun b sp hd => ?_) (fun sp hsp => ?_) (fun sp _ => ?_) (by simp) hbel ?_⟩
  ·
   rw [List.append_nil, hs, hres]; exact trodAll_mk1 (shut_bool hb _)
  ·
   rw [List.append_nil, hs]; exact trodAll_below hl hbel hrr hA hlt hsp
  ·
   rw [List.append_nil, hs, hcv]; rfl
  ·
   intro j t r h1 h2
   rw [hres] at h1 h2
   cases j with
   | zero =>
    simp [Value.resultList] at h1 h2
    subst h1; subst h2
    exact okWide_bool_mk hb _
   | succ j => simp at h1
 | panicked ch => exact he.elim
 | outgrown => exact he.elim
end
end Go.Fw
namespace Go.Proofs.YtmehkigmnpjcjaaDoor
open Go.RowKit Go.Fw Go.WideShapes Go.ChangeShapes Go.ChangeAt Go.Deep
theorem bulk_one {H : Type} (d : DataW H) : 1 ≤ Rows.uptoBulk d := by
 cases d with
 | lit l => cases l <;> simp [Rows.uptoBulk]
 | nil => simp [Rows.uptoBulk]
 | ptr d => simp [Rows.uptoBulk]
 | slice elems spare => simp [Rows.uptoBulk]
 | agg parts => simp [Rows.uptoBulk]
 | iface t d => simp [Rows.uptoBulk]
 | map entries => simp [Rows.uptoBulk]
 | held h => simp [Rows.uptoBulk]
theorem bulk_part {H : Type} {d : DataW H} {l : List (DataW H)} (h : d ∈ l) : Rows.uptoBulk d ≤ Rows.uptoBulkAll l := by
 induction l with
 | nil => cases h
 | cons x r ih =>
  simp only [Rows.uptoBulkAll]
  cases List.mem_cons.1 h with
  | inl e => subst e; omega
  | inr e => have := ih e; omega
theorem bulk_length {H : Type} (l : List (DataW H)) : l.length ≤ Rows.uptoBulkAll l := by
 induction l with
 | nil => simp [Rows.uptoBulkAll]
 | cons x r ih => have := bulk_one x; simp only [Rows.uptoBulkAll, List.length_cons]; omega
theorem bulk_bound {H : Type} {l : List (DataW H)} (hk : Rows.uptoSmall H l = true) : Rows.uptoBulkAll l ≤ 1048576 := of_decide_eq_true hk
theorem bulk_slice {H : Type} {en : TypeId × Value → H} {P : Program} {w : World} {t e : TypeId} {base : Nat} {spare : Nat → Bool} {held : Bool} {A : Option Addr} {m c fuel : Nat} {d : DataW H} {ps : List MemPlace} (ht : P.underlying t = some (.slice e)) (h : DataW.trod en P w base spare held fuel t [.slice A m c] = some (d, ps)) : m ≤ Rows.uptoBulk d := by
 rcases open_slice ht h with ⟨hv, _⟩ | ⟨a, len, cap, m', n, D, Pl, hv, hb, hl, hm, hmm, hx, hi⟩
 ·
  cases hv; exact Nat.zero_le _
 ·
  cases hv
  injection hx with h1 h2
  cases h1
  have := bulk_length ((List.range m).map D)
  simp only [Rows.uptoBulk]
  simp only [List.length_map, List.length_range] at this
  omega
end Go.Proofs.YtmehkigmnpjcjaaDoor
/- A slice of bytes as an argument of this program. No condition. -/
namespace Go.Fw
open Go.RowKit
theorem flat_bytes : ∀ xs : List UInt8, (xs.map fun b => [bc b]).flatten = bytesC xs
 | [] => rfl
 | x :: xs => by simp only [List.map_cons, List.flatten_cons, flat_bytes xs]; rfl
theorem Sl.by {w : World} {v : Value} {xs : List UInt8} (h : Sl w (fun b => [bc b]) 1 v xs) : By w v xs := by
 obtain ⟨A, c, rfl, hmc, hcm⟩ := h.lens
 obtain ⟨hl, _, _, hA⟩ := Sl.flat (k := 1) (fun _ => rfl) h
 rw [flat_bytes] at hA
 refine ⟨A, xs.length, c, rfl, rfl, hmc, hcm, hA, ?_⟩
 rintro rfl
 rcases Nat.eq_zero_or_pos xs.length with h0 | h0
 ·
  exact h0
 ·
  obtain ⟨a, h, _⟩ := hA h0; cases h
end Go.Fw
namespace Go.Proofs.YtmehkigmnpjcjaaDoor
open Go.RowKit Go.Fw Go.WideShapes Go.ChangeShapes
theorem reach_is : reachBytes = 140737488351232 := by decide
end Go.Proofs.YtmehkigmnpjcjaaDoor
/- Maps as rules of the calculus: made, looked up, written, cut, counted. Keys of whatever type whose equality is known. No condition; no program. -/
namespace Go.Fw
open Go.RowKit
structure KeyEq (P : Program) (k : TypeId) {α : Type} [DecidableEq α] (enc : α → Value) : Prop where
 eq : ∀ (w : World) (a b : α), (Op.equal k (enc a) (enc b)).run P w = .ok (decide (a = b)) w
 check : ∀ (w : World) (em : Bool) (a : α), (Instr.checkKey em 10000 k (enc a)).run P w = .ok () w
 wide : (match P.underlying k with | some (.array _ _) | some (.struct _) => true | _ => false) = true
 same : ∀ a : α, Instr.sameBits 10000 (enc a) (enc a) = true
section
variable {P : Program} {k : TypeId} {α β : Type} [DecidableEq α] {enc : α → Value}
def mfind (key : β → α) (a : α) : List β → Nat → Option (Nat × β)
 | [], _ => none
 | e :: r, i => if key e = a then some (i, e) else mfind key a r (i + 1)
theorem mfind_none {key : β → α} {a : α} : ∀ {l : List β} {i : Nat}, mfind key a l i = none → ∀ e ∈ l, key e ≠ a
 | [], _, _, e, he => by cases he
 | x :: r, i, h, e, he => by
  unfold mfind at h
  split at h
  ·
   cases h
  ·
   rename_i hne
   rcases List.mem_cons.1 he with rfl | he
   ·
    exact hne
   ·
    exact mfind_none h e he
theorem mfind_some {key : β → α} {a : α} : ∀ {l : List β} {i j : Nat} {e : β}, mfind key a l i = some (j, e) → i ≤ j ∧ l[j - i]? = some e ∧ key e = a
 | [], _, _, _, h => by cases h
 | x :: r, i, j, e, h => by
  unfold mfind at h
  split at h
  ·
   rename_i hk
   cases h
   exact ⟨Nat.le_refl _, by simp, hk⟩
  ·
   obtain ⟨h1, h2, h3⟩ := mfind_some h
   refine ⟨by omega, ?_, h3⟩
   rw [show j - i = (j - (i + 1)) + 1 by omega, List.getElem?_cons_succ]
   exact h2
theorem run_findAsking (K : KeyEq P k enc) (w : World) (a : α) (key : β → α) (me : β → MapEntry) (hme : ∀ e, (me e).key = enc (key e)) : ∀ (l : List β) (i : Nat),
  (Instr.findAsking k (enc a) (l.map me) i).run P w = .ok ((mfind key a l i).map fun p => (p.1, (me p.2).val)) w
 | [], i => by simp [Instr.findAsking, mfind]
 | e :: r, i => by
  simp only [List.map_cons, Instr.findAsking, Sem.run_bind, hme, K.eq, Result.andThen_ok, mfind]
  by_cases h : key e = a
  ·
   simp [h]
  ·
   have h' : ¬ a = key e := fun x => h x.symm
   simp only [h, h', decide_false, Bool.false_eq_true, if_false]
   exact run_findAsking K w a key me hme r (i + 1)
theorem run_findKey (K : KeyEq P k enc) (w : World) (a : α) (key : β → α) (me : β → MapEntry) (hme : ∀ e, (me e).key = enc (key e)) (l : List β) :
  (Instr.findKey k (enc a) (l.map me)).run P w = .ok ((mfind key a l 0).map fun p => (p.1, (me p.2).val)) w := by
 rw [run_findKey_eq w K.wide]
 exact run_findAsking K w a key me hme l 0
end
def mval {β : Type} (me : β → MapEntry) (z : Value) : Option (Nat × β) → Value
 | some p => (me p.2).val
 | none => z
def MapAt {β : Type} (w : World) (r : Nat) (me : β → MapEntry) (l : List β) (clock : Nat) : Prop := w.heap[r]? = some (.map (l.map me).toArray clock)
section
variable {β : Type} {w w' : World} {r : Nat} {me : β → MapEntry} {l : List β} {clock : Nat} {S : Nat → Prop}
theorem MapAt.lt (h : MapAt w r me l clock) : r < w.heap.size := (Array.getElem?_eq_some_iff.1 h).1
theorem MapAt.chg (h : MapAt w r me l clock) (hc : Chg S w w') (hs : ¬ S r) : MapAt w' r me l clock := (hc.block r h.lt hs).trans h
theorem MapAt.ext (h : MapAt w r me l clock) (hc : Ext w w') : MapAt w' r me l clock := h.chg hc (fun f => f)
end
theorem chg_setBlock {S : Nat → Prop} {w : World} {r : Nat} {o : Obj} (h : S r) : Chg S w { w with heap := w.heap.setIfInBounds r o } :=
 ⟨rfl, rfl, rfl, by simp, fun k hk hn => by
  have : r ≠ k := by rintro rfl; exact hn h
  simp [Array.getElem?_setIfInBounds, this], Nat.le_refl _⟩
theorem heap_setBlock {w : World} {r : Nat} {o : Obj} (h : r < w.heap.size) : ({ w with heap := w.heap.setIfInBounds r o } : World).heap[r]? = some o := by
 simp [Array.getElem?_setIfInBounds, h]
def Su (P : Program) (n : NN) (fr : Fr) (o : Op) (ty : TypeId) (w : World) (R : World → Prop) : Prop :=
 ∀ a (o' : Oper), o'.op = o → o'.type = ty → Rep n a fr → ∃ w', ((execOp a.eval o').run P w = .ok .skip w' ∨ ∃ v, (execOp a.eval o').run P w = .ok (.value v) w') ∧ R w'
section
variable {P : Program} {n : NN} {Φ : Exit → Fr → World → Prop} {fr : Fr} {w : World} {ty : TypeId} {R : World → Prop}
theorem WL.su {ops : Array Oper} {rest : List Oper} {o : Op} {pos : String} {aft : Array Edge}
  (hs : Su P n fr o ty w R) (h : ∀ w', R w' → WL P ops n Φ rest fr w') : WL P ops n Φ (⟨none, o, ty, pos, aft, none⟩ :: rest) fr w := fun a ha =>
 wpList_plain rfl fun K hK => by
  obtain ⟨w', hr, hR⟩ := hs a ⟨none, o, ty, pos, aft, none⟩ rfl rfl ha
  unfold Oper.wp
  rcases hr with hr | ⟨v, hr⟩
  ·
   rw [hr]; exact hK _ _ (h w' hR _ ha)
  ·
   rw [hr]; exact hK _ _ (h w' hR _ ha)
theorem RS.su {ops : Array Oper} {S : World → Prop} {fuel : Nat} {listed : Array Bool} {i : Nat} {o : Op} {pos : String} {aft : Array Edge}
  (hi : ops[i]? = some ⟨none, o, ty, pos, aft, none⟩) (hs : Su P n fr o ty w R)
  (h : ∀ w', R w' → S w' ∧ RH P ops S n Φ fuel (listed.setIfInBounds i true) fr w') : RS P ops S n Φ fuel listed i fr w := fun a ha => by
 obtain ⟨w', hr, hR⟩ := hs a ⟨none, o, ty, pos, aft, none⟩ rfl rfl ha
 obtain ⟨h1, h2⟩ := h w' hR
 unfold wpOp
 rw [hi]
 simp only [Region.wanted, if_true]
 refine .inl ?_
 unfold Oper.wp
 rcases hr with hr | ⟨v, hr⟩
 ·
  rw [hr]; exact ⟨h1, h2 _ ha⟩
 ·
  rw [hr]; exact ⟨h1, h2 _ ha⟩
theorem St.makeMap {t : TypeId} : St P n fr (.makeMap t none) ty w (fun v w' => ∃ r, v = .map (some r) ∧ w.heap.size ≤ r ∧ (∀ (β : Type) (me : β → MapEntry), MapAt w' r me ([] : List β) 0) ∧ Ext w w') := fun a o' ho hty ha => by
 refine ⟨.map (some w.heap.size), w.alloc (.map #[] 0), ?_, w.heap.size, rfl, Nat.le_refl _, fun β me => ?_, Chg.alloc _⟩
 ·
  simp [execOp, ho, Instr.makeMap, newObj, Sem.run]
 ·
  exact heap_alloc_new w _
theorem St.makeMapN {t k e : TypeId} {x : Operand} {q : IntKind} {i : Int} (hT : P.underlying t = some (.map k e)) (hx : ev fr x = some (.int q i)) : St P n fr (.makeMap t (some x)) ty w (fun v w' => ∃ r, v = .map (some r) ∧ w.heap.size ≤ r ∧ (∀ (β : Type) (me : β → MapEntry), MapAt w' r me ([] : List β) 0) ∧ Ext w w') := fun a o' ho hty ha => by
 refine ⟨.map (some w.heap.size), w.alloc (.map #[] 0), ?_, w.heap.size, rfl, Nat.le_refl _, fun β me => ?_, Chg.alloc _⟩
 ·
  simp [execOp, ho, Instr.makeMap, newObj, run_underlying hT, ha.ev hx, asInt, Sem.run]
  rfl
 ·
  exact heap_alloc_new w _
theorem Y.len_map {x : Operand} {t k e : TypeId} {r clock : Nat} {β : Type} {me : β → MapEntry} {l : List β} (hT : P.underlying t = some (.map k e)) (hx : ev fr x = some (.map (some r))) (hm : MapAt w r me l clock) :
  Yw P n fr (.call { callee := .builtin .len, args := #[x], argTypes := #[t] }) ty w (.int .i64 (l.length : Int)) w := fun a o' ho _ ha => by
 have h1 := MapKept.run_getObj_map (P := P) hm
 simp [execOp, ho, resolve, invoke, builtin, ha.ev hx, Builtin.len_, run_underlying hT, h1, goInt]
section keyed
variable {α β : Type} [DecidableEq α] {enc : α → Value} {key : β → α} {me : β → MapEntry} {l : List β} {clock r : Nat} {t k e : TypeId}
theorem Y.lookupOk {x y : Operand} {a : α} {z : Value} (K : KeyEq P k enc) (hme : ∀ e, (me e).key = enc (key e)) (hT : P.underlying t = some (.map k e)) (hz : ∀ w, (zeroValue e).run P w = .ok z w)
  (hx : ev fr x = some (.map (some r))) (hy : ev fr y = some (enc a)) (hm : MapAt w r me l clock) :
  Yw P n fr (.lookup t x y true) ty w (.tuple #[mval me z (mfind key a l 0), .bool (mfind key a l 0).isSome]) w := fun b o' ho _ ha => by
 have h1 := MapKept.run_getObj_map (P := P) hm
 have h2 := run_findKey K w a key me hme l
 have h3 := fun em => K.check w em a
 cases hf : mfind key a l 0 with
 | none => rw [hf] at h2; simp [mval, execOp, ho, ha.ev hx, ha.ev hy, Instr.lookup, run_underlying hT, h1, h3, h2, hz]
 | some p => rw [hf] at h2; simp [mval, execOp, ho, ha.ev hx, ha.ev hy, Instr.lookup, run_underlying hT, h1, h3, h2]
theorem Y.lookup {x y : Operand} {a : α} {z : Value} (K : KeyEq P k enc) (hme : ∀ e, (me e).key = enc (key e)) (hT : P.underlying t = some (.map k e)) (hz : ∀ w, (zeroValue e).run P w = .ok z w)
  (hx : ev fr x = some (.map (some r))) (hy : ev fr y = some (enc a)) (hm : MapAt w r me l clock) :
  Yw P n fr (.lookup t x y false) ty w (mval me z (mfind key a l 0)) w := fun b o' ho _ ha => by
 have h1 := MapKept.run_getObj_map (P := P) hm
 have h2 := run_findKey K w a key me hme l
 have h3 := fun em => K.check w em a
 cases hf : mfind key a l 0 with
 | none => rw [hf] at h2; simp [mval, execOp, ho, ha.ev hx, ha.ev hy, Instr.lookup, run_underlying hT, h1, h3, h2, hz]
 | some p => rw [hf] at h2; simp [mval, execOp, ho, ha.ev hx, ha.ev hy, Instr.lookup, run_underlying hT, h1, h3, h2]
theorem Y.lookupAt {x y : Operand} {a : α} {v : Value} {p : Nat × β} (K : KeyEq P k enc) (hme : ∀ e, (me e).key = enc (key e)) (hT : P.underlying t = some (.map k e))
  (hx : ev fr x = some (.map (some r))) (hy : ev fr y = some (enc a)) (hm : MapAt w r me l clock) (hf : mfind key a l 0 = some p) (hv : (me p.2).val = v) :
  Yw P n fr (.lookup t x y false) ty w v w := fun b o' ho _ ha => by
 have h1 := MapKept.run_getObj_map (P := P) hm
 have h2 := run_findKey K w a key me hme l
 have h3 := fun em => K.check w em a
 rw [hf] at h2
 simp [execOp, ho, ha.ev hx, ha.ev hy, Instr.lookup, run_underlying hT, h1, h3, h2, hv]
theorem Su.mapNew {x y z : Operand} {a : α} {v : Value} {b : β} (K : KeyEq P k enc) (hme : ∀ e, (me e).key = enc (key e)) (hT : P.underlying t = some (.map k e))
  (hx : ev fr x = some (.map (some r))) (hy : ev fr y = some (enc a)) (hzv : ev fr z = some v) (hm : MapAt w r me l clock) (hf : mfind key a l 0 = none) (hb : me b = { key := enc a, val := v, born := clock }) :
  Su P n fr (.mapUpdate t x y z) ty w (fun w' => MapAt w' r me (l ++ [b]) (clock + 1) ∧ Chg (· = r) w w') := fun c o' ho _ ha => by
 have h1 := MapKept.run_getObj_map (P := P) hm
 have h2 := run_findKey K w a key me hme l
 have h3 := fun em => K.check w em a
 rw [hf] at h2
 refine ⟨{ w with heap := w.heap.setIfInBounds r (.map ((l ++ [b]).map me).toArray (clock + 1)) }, .inl ?_, heap_setBlock hm.lt, chg_setBlock rfl⟩
 have h4 := MapKept.run_setObj_map (P := P) (.map ((l.map me).toArray.push { key := enc a, val := v, born := clock }) (clock + 1)) hm
 simp only [execOp, ho, ha.ev hx, ha.ev hy, ha.ev hzv, Instr.mapUpdate, Sem.run_bind, run_underlying hT, h1, Result.andThen_ok, h3, h2, Option.map_none, h4]
 simp [hb]
end keyed
end
end Go.Fw
/- Digests as a map's keys. No condition. -/
namespace Go.Fw
open Go.RowKit
theorem mapM_some {α β : Type} {f : α → Option β} : ∀ {l : List α}, (∀ x ∈ l, ∃ y, f x = some y) → ∃ ys, l.mapM f = some ys
 | [], _ => ⟨[], rfl⟩
 | x :: r, h => by
  obtain ⟨y, hy⟩ := h x (by simp)
  obtain ⟨ys, hys⟩ := mapM_some (l := r) fun z hz => h z (by simp [hz])
  exact ⟨y :: ys, by simp [List.mapM_cons, hy, hys]⟩
theorem sameBits_self {n : Nat} : ∀ {cs : List Value}, (∀ u ∈ cs, Instr.sameBits n u u = true) → Instr.sameBits (n + 1) (.agg cs.toArray) (.agg cs.toArray) = true := by
 intro cs h
 simp only [Instr.sameBits, beq_self_eq_true, Bool.true_and]
 rw [List.all_eq_true]
 rintro ⟨x, y⟩ hp
 have hxy : x = y ∧ x ∈ cs := by
  obtain ⟨i, hi⟩ := List.mem_iff_getElem?.1 hp
  rw [List.getElem?_zip_eq_some] at hi
  obtain ⟨h1, h2⟩ := hi
  exact ⟨Option.some.inj (h1.symm.trans h2), List.mem_of_getElem? h1⟩
 obtain ⟨rfl, hx⟩ := hxy
 exact h x hx
end Go.Fw
namespace Go.Proofs.YtmehkigmnpjcjaaDoor
open Go.RowKit Go.Fw
theorem cells_u8 : Tryd.prog.cellsOf 5 = 1 := by kernel_rfl
theorem cells_dig : Tryd.prog.cellsOf 36 = 32 := by kernel_rfl
theorem keyLits_u8 (D : Nat) (b : UInt8) : Tryd.prog.keyLits (D + 1) 5 [bc b] = some [.int .u8 (b.toNat : Int)] := by
 have hw : (Lit.int .u8 (b.toNat : Int)).wf = true := by
  have := b.toNat_lt
  simp only [Lit.wf, IntKind.min, IntKind.max, IntKind.bits, IntKind.signed]
  simp
  omega
 simp only [Program.keyLits, Tryd.underlying5, bc, hw]
 simp
theorem keyLits_dig (D : Nat) (d : Dig) : ∃ la, Tryd.prog.keyLits (D + 2) 36 (digC d) = some la := by
 obtain ⟨ys, hys⟩ := mapM_some (l := List.range 32) (f := fun i => Tryd.prog.keyLits (D + 1) 5 (((digC d).drop (i * 1)).take 1)) (by
  intro i hi
  rw [List.mem_range] at hi
  have hd := d.2
  have : ((digC d).drop (i * 1)).take 1 = [bc (d.1[i]'om_)] := by
   rw [Nat.mul_one, digC, bytesC, ← List.map_drop, List.drop_eq_getElem_cons om_]
   rfl
  rw [this]
  exact ⟨_, keyLits_u8 D _⟩)
 refine ⟨ys.flatten, ?_⟩
 have e : Tryd.prog.keyLits ((D + 1) + 1) 36 (digC d) = ((List.range 32).mapM fun i => Tryd.prog.keyLits (D + 1) 5 (((digC d).drop (i * 1)).take 1)).map List.flatten := by
  conv => lhs; unfold Program.keyLits
  simp only [Tryd.underlying36, cells_dig, cells_u8, digC_length, if_true]
 rw [show D + 2 = (D + 1) + 1 from rfl, e, hys]
 rfl
theorem keyDig : KeyEq Tryd.prog 36 (fun d : Dig => digV d) where
 eq w a b := eqIn_dig 9998 a b w
 check w em a := by
  obtain ⟨la, hla⟩ := keyLits_dig 3 a
  exact run_checkKey_deep em 9997 3 36 kr_ w 5 (digV a) la (by simp only [Value.formed, Tryd.underlying36, cells_dig]; simp [digC_length]) (by simpa [Value.cells] using hla)
 wide := by rw [Tryd.underlying36]
 same a := sameBits_self (n := 9999) fun u hu => by
  simp only [digC, bytesC, List.mem_map] at hu
  obtain ⟨b, _, rfl⟩ := hu
  simp [bc, Instr.sameBits]
end Go.Proofs.YtmehkigmnpjcjaaDoor
/- Nodes of a graph, as data and in memory; what is wrong with a list of them. No condition. -/
namespace Go.Pl
open Go.Fw
structure Nd where
 id : Dig
 ps : List Dig
def risB : List Dig → Bool
 | a :: b :: r => lessB a b && risB (b :: r)
 | _ => true
def wrongE (ahead : List Dig) (n : Nd) : Int := if 8 < n.ps.length then 4 else if risB n.ps = false then 7 else if n.id ∈ ahead then 6 else if ∃ p ∈ n.ps, p ∉ ahead then 5 else 0
def fwrong : List Nd → List Dig → Nat → Nat × Int
 | [], _, _ => (0, 0)
 | n :: r, ahead, i => if wrongE ahead n = 0 then fwrong r (ahead ++ [n.id]) (i + 1) else (i, wrongE ahead n)
def readE (l : List Nd) : Nat × Int := if 200 < l.length then (0, 4) else fwrong l [] 0
abbrev idsL (l : List Nd) : List Dig := l.map Nd.id
theorem risB_at : ∀ {l : List Dig}, (∀ i a b, l[i]? = some a → l[i + 1]? = some b → lessB a b = true) → risB l = true
 | [], _ => rfl
 | [_], _ => rfl
 | a :: b :: r, h => by
  rw [risB, h 0 a b rfl rfl, Bool.true_and]
  exact risB_at fun i x y hx hy => h (i + 1) x y (by simpa using hx) (by simpa using hy)
theorem risB_not : ∀ {l : List Dig} {i : Nat} {a b : Dig}, l[i]? = some a → l[i + 1]? = some b → lessB a b = false → risB l = false
 | [], _, _, _, h, _, _ => by simp at h
 | [_], i, _, _, _, h, _ => by simp at h
 | x :: y :: r, 0, a, b, h, k, hl => by
  simp at h k; subst h; subst k
  rw [risB, hl, Bool.false_and]
 | x :: y :: r, i + 1, a, b, h, k, hl => by
  rw [risB, risB_not (l := y :: r) (i := i) (by simpa using h) (by simpa using k) hl, Bool.and_false]
theorem wrong_ok {ahead : List Dig} {n : Nd} (h : wrongE ahead n = 0) : n.ps.length ≤ 8 ∧ risB n.ps = true ∧ n.id ∉ ahead ∧ ∀ p ∈ n.ps, p ∈ ahead := by
 unfold wrongE at h
 split at h
 ·
  omega
 split at h
 ·
  omega
 split at h
 ·
  omega
 split at h
 ·
  omega
 rename_i h1 h2 h3 h4
 refine ⟨by omega, by simpa using h2, h3, fun p hp => ?_⟩
 by_cases hm : p ∈ ahead
 ·
  exact hm
 ·
  exact absurd ⟨p, hp, hm⟩ h4
theorem fwrong_step {l : List Nd} {i : Nat} {n : Nd} (hi : l[i]? = some n) (h : wrongE (idsL (l.take i)) n = 0) : fwrong (l.drop i) (idsL (l.take i)) i = fwrong (l.drop (i + 1)) (idsL (l.take (i + 1))) (i + 1) := by
 have hlt := (List.getElem?_eq_some_iff.1 hi).1
 have hn := (List.getElem?_eq_some_iff.1 hi).2
 rw [List.drop_eq_getElem_cons hlt, hn, fwrong, if_pos h, take_succ hi]
 simp [idsL]
theorem fwrong_stop {l : List Nd} {i : Nat} {n : Nd} (hi : l[i]? = some n) (h : wrongE (idsL (l.take i)) n ≠ 0) : fwrong (l.drop i) (idsL (l.take i)) i = (i, wrongE (idsL (l.take i)) n) := by
 have hlt := (List.getElem?_eq_some_iff.1 hi).1
 have hn := (List.getElem?_eq_some_iff.1 hi).2
 rw [List.drop_eq_getElem_cons hlt, hn, fwrong, if_neg h]
abbrev placed (ids : List Dig) : List (Dig × Nat) := ids.zipIdx
def pme (e : Dig × Nat) : MapEntry := { key := digV e.1, val := .int .i64 (e.2 : Int), born := e.2 }
theorem placed_isSome {d : Dig} : ∀ {ids : List Dig} {k i : Nat}, (mfind Prod.fst d (ids.zipIdx k) i).isSome = decide (d ∈ ids)
 | [], _, _ => by simp [mfind]
 | x :: r, k, i => by
  rw [List.zipIdx_cons, mfind]
  by_cases h : x = d
  ·
   simp [h]
  ·
   have h' : ¬ d = x := fun e => h e.symm
   rw [if_neg h, placed_isSome (ids := r)]
   simp [h']
theorem placed_some {d : Dig} : ∀ {ids : List Dig} {k i j : Nat} {e : Dig × Nat}, mfind Prod.fst d (ids.zipIdx k) i = some (j, e) → e.1 = d ∧ ids[e.2 - k]? = some d ∧ k ≤ e.2 ∧ ∀ x, x < e.2 - k → ids[x]? ≠ some d
 | [], _, _, _, _, h => by simp [mfind] at h
 | x :: r, k, i, j, e, h => by
  rw [List.zipIdx_cons, mfind] at h
  split at h
  ·
   rename_i hx
   cases h
   refine ⟨hx, by simpa using hx, Nat.le_refl _, fun y hy => by simp at hy⟩
  ·
   rename_i hx
   obtain ⟨h1, h2, h3, h4⟩ := placed_some (ids := r) (k := k + 1) h
   have e1 : e.2 - k = (e.2 - (k + 1)) + 1 := by omega
   refine ⟨h1, by rw [e1, List.getElem?_cons_succ]; exact h2, by omega, fun y hy => ?_⟩
   cases y with
   | zero => simp only [List.getElem?_cons_zero]; intro he; cases he; exact hx rfl
   | succ y => rw [List.getElem?_cons_succ]; exact h4 y om_
theorem placed_none {d : Dig} {ids : List Dig} (h : d ∉ ids) : mfind Prod.fst d (placed ids) 0 = none := by
 have := placed_isSome (d := d) (ids := ids) (k := 0) (i := 0)
 simpa [h] using this
theorem placed_app (ids : List Dig) (d : Dig) : placed (ids ++ [d]) = placed ids ++ [(d, ids.length)] := by simp [placed, List.zipIdx_append]
end Go.Pl
namespace Go.Fw
open Go.Pl
structure NdV where
 n : Nd
 A : Option Addr
 c : Nat
abbrev NdV.pv (x : NdV) : Value := .slice x.A x.n.ps.length x.c
def ndC (x : NdV) : List Value := digC x.n.id ++ [x.pv]
theorem ndC_length (x : NdV) : (ndC x).length = 33 := by simp [ndC, digC_length]
abbrev ndV (x : NdV) : Value := .agg (ndC x).toArray
theorem one_ndC {x : NdV} : ∀ u ∈ ndC x, u.oneCell' = true := by
 intro u hu
 simp only [ndC, List.mem_append, List.mem_singleton] at hu
 rcases hu with hu | rfl
 ·
  exact one_digC u hu
 ·
  rfl
theorem Y.subN {P : Program} {n : NN} {fr : Fr} {w : World} {ty : TypeId} {x y : Operand} {p q : Nat} {t t' : TypeId} (hx : ev fr x = some (.int .i64 (p : Int))) (hy : ev fr y = some (.int .i64 (q : Int))) (h : q ≤ p) (hb : p ≤ 9223372036854775807) :
  Yw P n fr (.binOp .sub t x y t') ty w (.int .i64 ((p - q : Nat) : Int)) w := by
 have := Y.sub (P := P) (n := n) (w := w) (ty := ty) (t := t) (t' := t') hx hy o2_
 rwa [show (p : Int) - (q : Int) = ((p - q : Nat) : Int) by omega] at this
def NdV.zero : NdV := ⟨⟨Dig.zero, []⟩, none, 0⟩
section
variable {w : World} {a : Addr} {id : Dig} {ps : List Dig} {A : Option Addr} {c : Nat}
theorem Mem.node0 (h : Mem w a (ndC ⟨⟨id, ps⟩, A, c⟩)) : Mem w (a.add 0) (digC id) := h.sub 0 fun j v hj => by
 have hlt : j < (digC id).length := (List.getElem?_eq_some_iff.1 hj).1
 rw [Nat.zero_add, ndC, List.getElem?_append_left hlt]
 exact hj
theorem Mem.node1 (h : Mem w a (ndC ⟨⟨id, ps⟩, A, c⟩)) : w.cell? (a.add 32) = some (.slice A ps.length c) := h.cell 32 (by
 rw [ndC, List.getElem?_append_right (by rw [digC_length]; omega), digC_length]
 rfl)
end
structure Nds (w : World) (u : Value) (l : List NdV) : Prop where
 sl : Sl w ndC 33 u l
 ps : ∀ x ∈ l, Sl w digC 32 x.pv x.n.ps
theorem Nds.ext {w w' : World} {u : Value} {l : List NdV} (h : Nds w u l) (hc : Ext w w') : Nds w' u l := ⟨h.sl.ext hc, fun x hx => (h.ps x hx).ext hc⟩
abbrev ndsL (l : List NdV) : List Nd := l.map NdV.n
end Go.Fw
namespace Go.Proofs.YtmehkigmnpjcjaaDoor
open Go.RowKit Go.Fw Go.Pl
abbrev TNo : TypeId := 52
theorem sz0_apiNode : (Tryd.prog.info? TNo).map (·.size) = some 33 := by kernel_rfl
theorem sz_apiNode (x : NdV) : (Tryd.prog.info? TNo).map (·.size) = some (ndC x).length := by rw [ndC_length]; exact sz0_apiNode
theorem sz_sDig_ : (Tryd.prog.info? 25).map (·.size) = some 1 := by kernel_rfl
theorem fo_apiNode0 : FieldOff Tryd.prog TNo 0 0 := ⟨_, _, 32, Tryd.underlying52, rfl, sz_dig, by decide, rfl⟩
theorem fo_apiNode1 : FieldOff Tryd.prog TNo 1 32 := ⟨_, _, 1, Tryd.underlying52, rfl, sz_sDig_, by decide, rfl⟩
theorem info_apiNode : ∃ i : TypeInfo, Tryd.prog.info? TNo = some i ∧ i.zero = some (ndV NdV.zero) ∧ i.size = 33 := by
 have h : (Tryd.prog.info? TNo).map (fun i => (i.zero, i.size)) = some (some (ndV NdV.zero), 33) := by kernel_rfl
 cases hi : Tryd.prog.info? TNo with
 | none => simp [hi] at h
 | some i => simp [hi] at h; exact ⟨i, rfl, h.1, h.2⟩
theorem zero_int (w : World) : (zeroValue 3).run Tryd.prog w = .ok (.int .i64 0) w := by
 have h : (Tryd.prog.info? 3).map (fun i => i.zero) = some (some (.int .i64 0)) := by kernel_rfl
 cases hi : Tryd.prog.info? 3 with
 | none => simp [hi] at h
 | some i => simp [hi] at h; simp [zeroValue, typeInfo, hi, h]
end Go.Proofs.YtmehkigmnpjcjaaDoor
/- Own, walked. No condition. -/
namespace Go.Proofs.YtmehkigmnpjcjaaDoor
open Go.RowKit Go.Fw Go.Pl
theorem one_flat {α : Type} {enc : α → List Value} (h : ∀ x, ∀ u ∈ enc x, u.oneCell' = true) {xs : List α} : ∀ u ∈ (xs.map enc).flatten, u.oneCell' = true := by
 intro u hu
 obtain ⟨l, hl, hu⟩ := List.mem_flatten.1 hu
 obtain ⟨d, _, rfl⟩ := List.mem_map.1 hl
 exact h d u hu
end Go.Proofs.YtmehkigmnpjcjaaDoor
/- Several texts as one: Sd, Sf, Sg, Sh, Sx. -/
/- Lists of digests: slices.Index, slices.Contains, the reference's Sorted, walked; the plain law of sorting. No condition. -/
namespace Go.Pl
open Go.Fw
end Go.Pl
namespace Go.Fw
open Go.RowKit
theorem Sl.at {α : Type} {w : World} {enc : α → List Value} {k : Nat} {A : Option Addr} {m c : Nat} {xs : List α} (h : Sl w enc k (.slice A m c) xs) {i : Nat} {x : α} (hx : xs[i]? = some x) : ∃ a, A = some a ∧ Mem w (a.add (i * k)) (enc x) := by
 obtain ⟨A', m', c', e, _, _, _, hls⟩ := h
 injection e with e1
 subst e1
 exact hls i x hx
end Go.Fw
namespace Go.Proofs.YtmehkigmnpjcjaaDoor
open Go.RowKit Go.Fw Go.Pl
abbrev TDg : TypeId := 36
end Go.Proofs.YtmehkigmnpjcjaaDoor
/- slices.SortFunc's contract at digests, laid by the shelf at this program, in plain words. No condition. -/
namespace Go.Proofs.YtmehkigmnpjcjaaDoor
open Go.Shelf
def sortD_ren : Go.Shelf.Ren := ⟨fun | 6 => 70 | 15 => 79 | 14 => 78 | 28 => 90 | 29 => 91 | 20 => 82 | 21 => 83 | 22 => 84 | 23 => 85 | 24 => 86 | 25 => 87 | 26 => 88 | 27 => 89 | 46 => 92 | 47 => 93 | 48 => 94 | 49 => 95 | 50 => 96 | 57 => 97 | n => n, fun | 22 => 25 | 24 => 36 | 25 => 161 | 3 => 3 | 39 => 139 | 0 => 0 | 53 => 145 | 55 => 153 | 4 => 4 | 46 => 171 | 45 => 170 | 50 => 81 | 5 => 5 | 9 => 9 | 66 => 178 | 70 => 182 | 76 => 184 | 77 => 185 | n => n, fun | n => n⟩
theorem sortD : Go.Proofs.SlLaysF0.n6 Tryd.prog sortD_ren := {
 mixed := by kernel_rfl
 f6 := ⟨Tryd.f70.name, by decide, Tryd.func70.trans (congrArg some kr_)⟩
 f14 := ⟨Tryd.f78.name, by decide, Tryd.func78.trans (congrArg some kr_)⟩
 f15 := Tryd.func79.trans (congrArg some kr_)
 f20 := ⟨Tryd.f82.name, by decide, Tryd.func82.trans (congrArg some kr_)⟩
 f21 := ⟨Tryd.f83.name, by decide, Tryd.func83.trans (congrArg some kr_)⟩
 f22 := ⟨Tryd.f84.name, by decide, Tryd.func84.trans (congrArg some kr_)⟩
 f23 := ⟨Tryd.f85.name, by decide, Tryd.func85.trans (congrArg some kr_)⟩
 f24 := ⟨Tryd.f86.name, by decide, Tryd.func86.trans (congrArg some kr_)⟩
 f25 := ⟨Tryd.f87.name, by decide, Tryd.func87.trans (congrArg some kr_)⟩
 f26 := ⟨Tryd.f88.name, by decide, Tryd.func88.trans (congrArg some kr_)⟩
 f27 := ⟨Tryd.f89.name, by decide, Tryd.func89.trans (congrArg some kr_)⟩
 f28 := Tryd.func90.trans (congrArg some kr_)
 f29 := Tryd.func91.trans (congrArg some kr_)
 f46 := ⟨Tryd.f92.name, by decide, Tryd.func92.trans (congrArg some kr_)⟩
 f47 := Tryd.func93.trans (congrArg some kr_)
 f48 := Tryd.func94.trans (congrArg some kr_)
 f49 := ⟨Tryd.f95.name, by decide, Tryd.func95.trans (congrArg some kr_)⟩
 f50 := ⟨Tryd.f96.name, by decide, Tryd.func96.trans (congrArg some kr_)⟩
 f57 := ⟨Tryd.f97.name, by decide, Tryd.func97.trans (congrArg some kr_)⟩
 t0 := Tryd.underlying0
 a0 := Tryd.isAgg0
 z0 := Tryd.sizeOf0
 v0 := Tryd.zeroValue0
 t3 := Tryd.underlying3
 a3 := Tryd.isAgg3
 z3 := Tryd.sizeOf3
 v3 := Tryd.zeroValue3
 t4 := Tryd.underlying4
 a4 := Tryd.isAgg4
 z4 := Tryd.sizeOf4
 v4 := Tryd.zeroValue4
 t5 := Tryd.underlying5
 a5 := Tryd.isAgg5
 z5 := Tryd.sizeOf5
 v5 := Tryd.zeroValue5
 t9 := Tryd.underlying9
 a9 := Tryd.isAgg9
 z9 := Tryd.sizeOf9
 v9 := Tryd.zeroValue9
 t22 := Tryd.underlying25
 a22 := Tryd.isAgg25
 z22 := Tryd.sizeOf25
 v22 := Tryd.zeroValue25
 t25 := Tryd.underlying161
 a25 := Tryd.isAgg161
 z25 := Tryd.sizeOf161
 v25 := Tryd.zeroValue161
 t39 := Tryd.underlying139
 a39 := Tryd.isAgg139
 z39 := Tryd.sizeOf139
 v39 := Tryd.zeroValue139
 t45 := Tryd.underlying170
 a45 := Tryd.isAgg170
 z45 := Tryd.sizeOf170
 v45 := Tryd.zeroValue170
 t46 := Tryd.underlying171
 a46 := Tryd.isAgg171
 z46 := Tryd.sizeOf171
 v46 := Tryd.zeroValue171
 t50 := Tryd.underlying81
 a50 := Tryd.isAgg81
 z50 := Tryd.sizeOf81
 v50 := Tryd.zeroValue81
 t53 := Tryd.underlying145
 a53 := Tryd.isAgg145
 z53 := Tryd.sizeOf145
 v53 := Tryd.zeroValue145
 t55 := Tryd.underlying153
 a55 := Tryd.isAgg153
 z55 := Tryd.sizeOf153
 v55 := Tryd.zeroValue153
 t66 := Tryd.underlying178
 a66 := Tryd.isAgg178
 z66 := Tryd.sizeOf178
 v66 := Tryd.zeroValue178
 t70 := Tryd.underlying182
 a70 := Tryd.isAgg182
 z70 := Tryd.sizeOf182
 v70 := Tryd.zeroValue182
 t76 := Tryd.underlying184
 a76 := Tryd.isAgg184
 z76 := Tryd.sizeOf184
 v76 := Tryd.zeroValue184
 t77 := Tryd.underlying185
 a77 := Tryd.isAgg185
 z77 := Tryd.sizeOf185
 v77 := Tryd.zeroValue185 }
end Go.Proofs.YtmehkigmnpjcjaaDoor
/- slices.SortFunc at digests of our own: what it leaves; the order of digests. No condition; no program. -/
namespace Go.Pl
open Go.Fw Go.Proofs Go.Sort
theorem bl_asymm : ∀ {a b : List UInt8}, Op.bytesLess a b = true → Op.bytesLess b a = false
 | _, [], h => by simp [Op.bytesLess] at h
 | [], _ :: _, _ => by simp [Op.bytesLess]
 | a :: x, b :: y, h => by
  simp only [Op.bytesLess, Bool.or_eq_true, decide_eq_true_eq, Bool.and_eq_true, beq_iff_eq] at h
  simp only [Op.bytesLess, Bool.or_eq_false_iff, decide_eq_false_iff_not, Bool.and_eq_false_imp, beq_iff_eq]
  rcases h with h | ⟨rfl, h⟩
  ·
   exact ⟨fun h' => by have := UInt8.lt_iff_toNat_lt.1 h; have := UInt8.lt_iff_toNat_lt.1 h'; omega, fun e => by subst e; exact absurd h (UInt8.lt_irrefl _)⟩
  ·
   exact ⟨UInt8.lt_irrefl _, fun _ => bl_asymm h⟩
theorem bl_trans : ∀ {a b c : List UInt8}, Op.bytesLess a b = true → Op.bytesLess b c = true → Op.bytesLess a c = true
 | _, [], _, h, _ => by simp [Op.bytesLess] at h
 | _, _ :: _, [], _, h => by simp [Op.bytesLess] at h
 | [], _ :: _, _ :: _, _, _ => by simp [Op.bytesLess]
 | a :: x, b :: y, c :: z, h, k => by
  simp only [Op.bytesLess, Bool.or_eq_true, decide_eq_true_eq, Bool.and_eq_true, beq_iff_eq] at h k ⊢
  rcases h with h | ⟨rfl, h⟩
  ·
   rcases k with k | ⟨rfl, k⟩
   ·
    exact .inl (UInt8.lt_trans h k)
   ·
    exact .inl h
  ·
   rcases k with k | ⟨rfl, k⟩
   ·
    exact .inl k
   ·
    exact .inr ⟨rfl, bl_trans h k⟩
theorem bl_tri : ∀ {a b : List UInt8}, a.length = b.length → Op.bytesLess a b = false → Op.bytesLess b a = false → a = b
 | [], [], _, _, _ => rfl
 | [], _ :: _, h, _, _ => by simp at h
 | _ :: _, [], h, _, _ => by simp at h
 | a :: x, b :: y, hl, h, k => by
  simp only [Op.bytesLess, Bool.or_eq_false_iff, decide_eq_false_iff_not, Bool.and_eq_false_imp, beq_iff_eq] at h k
  have e : a = b := UInt8.toNat_inj.1 (by
   have h1 : ¬ a.toNat < b.toNat := fun x => h.1 (UInt8.lt_iff_toNat_lt.2 x)
   have h2 : ¬ b.toNat < a.toNat := fun x => k.1 (UInt8.lt_iff_toNat_lt.2 x)
   omega)
  subst e
  rw [bl_tri (by simpa using hl) (h.2 rfl) (k.2 rfl)]
theorem less_asymm {a b : Dig} (h : lessB a b = true) : lessB b a = false := bl_asymm h
theorem less_trans {a b c : Dig} (h : lessB a b = true) (k : lessB b c = true) : lessB a c = true := bl_trans h k
theorem less_tri {a b : Dig} (h : lessB a b = false) (k : lessB b a = false) : a = b := Subtype.ext (bl_tri (by rw [a.2, b.2]) h k)
theorem less_irrefl (a : Dig) : lessB a a = false := bytesLess_self _
def cfD (a b : Dig) : Int := if lessB a b = true then -1 else 1
theorem lt_cfD (a b : Dig) : ltOf cfD a b = lessB a b := by
 unfold ltOf cfD
 cases lessB a b <;> simp
theorem swo_cfD : SWO (ltOf cfD) where
 irrefl x := by rw [lt_cfD]; exact less_irrefl x
 trans x y z h k := by rw [lt_cfD] at h k ⊢; exact less_trans h k
 ntrans x y z h k := by
  rw [lt_cfD] at h k ⊢
  cases hc : lessB x z with
  | false => rfl
  | true =>
   cases hd : lessB y x with
   | true => rw [less_trans hd hc] at k; cases k
   | false =>
    have := less_tri h hd; subst this
    rw [hc] at k; cases k
def sortedD (l : List Dig) : List Dig := l.mergeSort fun x y => !(ltOf cfD) y x
end Go.Pl
namespace Go.Fw
open Go.RowKit Go.Proofs Go.Sort
theorem flat_get {α : Type} {enc : α → List Value} {k : Nat} (hk : 0 < k) (he : ∀ x, (enc x).length = k) : ∀ (xs : List α) (t : Nat), ((xs.map enc).flatten)[t]? = (xs[t / k]?).bind fun x => (enc x)[t % k]?
 | [], t => by simp
 | x :: xs, t => by
  simp only [List.map_cons, List.flatten_cons, List.getElem?_append, he]
  split
  ·
   rename_i h
   rw [Nat.div_eq_of_lt h, Nat.mod_eq_of_lt h]; rfl
  ·
   rename_i h
   have e1 : t / k = (t - k) / k + 1 := Nat.div_eq_sub_div hk om_
   have e2 : t % k = (t - k) % k := Nat.mod_eq_sub_mod om_
   rw [flat_get hk he xs, e1, e2, List.getElem?_cons_succ]
theorem flatK_toList {α : Type} [Inhabited α] {enc : α → List Value} {k : Nat} (hk : 0 < k) (he : ∀ x, (enc x).length = k) (xs : List α) : (flatK enc k xs.toArray).toList = (xs.map enc).flatten := by
 apply List.ext_getElem?
 intro t
 rw [flat_get hk he]
 by_cases ht : t < xs.length * k
 ·
  have h1 : t / k < xs.length := Nat.div_lt_of_lt_mul (by rw [Nat.mul_comm]; exact ht)
  have h2 : t % k < (enc xs[t / k]).length := by rw [he]; exact Nat.mod_lt _ hk
  have h3 : t < (flatK enc k xs.toArray).size := by rw [size_flatK]; exact ht
  have h4 := get_flatK enc k xs.toArray t (by simpa using ht)
  rw [getElem!_pos _ t h3, getElem!_pos xs.toArray (t / k) (by simpa using h1)] at h4
  rw [Array.getElem?_toList, Array.getElem?_eq_getElem h3, h4, List.getElem?_eq_getElem h1, Option.bind_some, List.getElem?_eq_getElem h2]
  simp only [List.getElem_toArray]
  rw [getElem!_pos (enc xs[t / k]) (t % k) h2]
 ·
  have h1 : ¬ t / k < xs.length := fun h => ht (Nat.lt_mul_of_div_lt h hk)
  rw [Array.getElem?_toList, Array.getElem?_eq_none (by rw [size_flatK]; simpa using ht), List.getElem?_eq_none om_]
  rfl
theorem putCells_list (F : Array Value) (xs rest : List Value) (h : F.size = xs.length) : putCells id 0 F (xs ++ rest).toArray = (F.toList ++ rest).toArray := by
 apply Array.ext_getElem?
 intro j
 simp only [putCells, Array.getElem?_mapIdx, List.getElem?_toArray, List.getElem?_append, Nat.zero_le, true_and, Nat.zero_add, Nat.sub_zero, id]
 by_cases hj : j < F.size
 ·
  rw [if_pos om_, if_pos (by simpa using hj), List.getElem?_eq_getElem om_, Array.getElem?_toList, Array.getElem?_eq_getElem hj]
  simp only [Option.map_some, if_pos hj]
  rw [getElem!_pos F j hj]
 ·
  rw [if_neg om_, if_neg (by simpa using hj), h]
  simp only [if_neg (show ¬ j < xs.length by omega), Array.length_toList, h]
  cases rest[j - xs.length]? <;> rfl
section
variable {w : World} {e : TypeId} {k g n c : Nat} {α : Type} [Inhabited α] {enc : α → List Value} {l : List α}
theorem Own.holds (hk : 0 < k) (he : ∀ x, (enc x).length = k) (h : Own w e k (.slice (some ⟨g, 0, none⟩) n c) ((l.map enc).flatten)) : HoldsK enc k w g 0 l.toArray ∧ g < w.heap.size := by
  rcases h with ⟨h, _⟩ | ⟨g', n', c', rest, fz, h, hh, hxl, hnc, hcm, hal, hfz⟩
  · cases h
  injection h with h2 h3 h4
  injection h2 with h2
  injection h2 with h2
  subst h2; subst h3; subst h4
  refine ⟨fun j hj => ?_, (Array.getElem?_eq_some_iff.1 hh).1⟩
  have hj' : j < (flatK enc k l.toArray).toList.length := by simpa using hj
  have hjx : j < ((l.map enc).flatten).length := by rw [← flatK_toList hk he]; exact hj'
  refine ⟨?_, ?_⟩
  · rw [Nat.zero_add]
    unfold World.cell?
    simp only [hh]
    simp only [List.getElem?_toArray]
    rw [List.getElem?_append_left hjx, ← flatK_toList hk he, Array.getElem?_toList, Array.getElem?_eq_getElem hj, getElem!_pos _ j hj]
    rfl
  · rw [Nat.zero_add]
    unfold World.frozen?
    simp only [hh]
    have := hfz j (by have : ((l.map enc).flatten).length ≤ c * k := by rw [← hal]; simp
                      omega)
    simp only [Bool.and_eq_false_imp, decide_eq_true_eq, decide_eq_false_iff_not]
    omega
theorem Own.sorted (hk : 0 < k) (he : ∀ x, (enc x).length = k) (h : Own w e k (.slice (some ⟨g, 0, none⟩) n c) ((l.map enc).flatten)) {l' : List α} (hl : l'.length = l.length) (m : Nat) (os : Array Obj) :
  Own (sortWorldK enc k w g 0 m l'.toArray os) e k (.slice (some ⟨g, 0, none⟩) n c) ((l'.map enc).flatten) ∧ Chg (· = g) w (sortWorldK enc k w g 0 m l'.toArray os) := by
 rcases h with ⟨h, _⟩ | ⟨g', n', c', rest, fz, h, hh, hxl, hnc, hcm, hal, hfz⟩
 ·
  cases h
 injection h with h2 h3 h4
 injection h2 with h2
 injection h2 with h2
 subst h2; subst h3; subst h4
 have hlen : ((l'.map enc).flatten).length = ((l.map enc).flatten).length := by rw [flat_length he, flat_length he, hl]
 have hlt := (Array.getElem?_eq_some_iff.1 hh).1
 have hg : (sortWorldK enc k w g 0 m l'.toArray os).heap[g]? = some (.cells ((l'.map enc).flatten ++ rest).toArray e fz) := by
  show ((w.heap.modify g (onCells (putCells id 0 (flatK enc k l'.toArray)))) ++ os)[g]? = _
  rw [Array.getElem?_append_left (by simpa using hlt), Array.getElem?_modify, if_pos rfl, hh, Option.map_some]
  simp only [onCells]
  rw [putCells_list _ _ _ (by rw [size_flatK, flat_length he]; simp [hl]), flatK_toList hk he]
 refine ⟨.inr ⟨g, n, c, rest, fz, rfl, hg, by rw [hlen, hxl], hnc, hcm, by rw [List.length_append, hlen, ← List.length_append, hal], hfz⟩, rfl, rfl, rfl, ?_, fun b hb hn => ?_, Nat.le_add_right _ _⟩
 ·
  show _ ≤ ((w.heap.modify g _) ++ os).size
  simp
 ·
  show ((w.heap.modify g (onCells (putCells id 0 (flatK enc k l'.toArray)))) ++ os)[b]? = _
  rw [Array.getElem?_append_left (by simpa using hb), Array.getElem?_modify, if_neg (fun h => hn h.symm)]
end
theorem Ext.grown {W w' : World} (h : Ext W w') : ∃ q os', w' = grow (W.drewN q) os' := by
 refine ⟨w'.drawn - W.drawn, w'.heap.extract W.heap.size w'.heap.size, ?_⟩
 obtain ⟨h1, h2, h3, h4, h5, h6⟩ := h
 have hh : w'.heap = W.heap ++ w'.heap.extract W.heap.size w'.heap.size := by
  apply Array.ext_getElem?
  intro i
  by_cases hi : i < W.heap.size
  ·
   rw [Array.getElem?_append_left hi]; exact h5 i hi (fun f => f)
  ·
   rw [Array.getElem?_append_right om_, Array.getElem?_extract]
   split
   ·
    congr 1; omega
   ·
    rw [Array.getElem?_eq_none om_]
 cases W; cases w'
 simp only [World.drewN, grow] at *
 subst h1; subst h2; subst h3
 congr 1
 omega
end Go.Fw
/- The plain law of a commit's references: sorting what is gathered once is sorting by insertion. No condition; no program. -/
namespace Go.Pl
open Go.Fw Go.Proofs Go.Sort
abbrev Up (l : List Dig) : Prop := l.Pairwise fun x y => lessB x y = true
theorem up_eq : ∀ {a b : List Dig}, Up a → Up b → (∀ x, x ∈ a ↔ x ∈ b) → a = b
 | [], [], _, _, _ => rfl
 | [], y :: b, _, _, h => by have := (h y).2 (by simp); simp at this
 | x :: a, [], _, _, h => by have := (h x).1 (by simp); simp at this
 | x :: a, y :: b, ha, hb, h => by
  have ha' := List.pairwise_cons.1 ha
  have hb' := List.pairwise_cons.1 hb
  have e : x = y := by
   have h1 := (h x).1 (by simp)
   have h2 := (h y).2 (by simp)
   rcases List.mem_cons.1 h1 with h1 | h1
   ·
    exact h1
   rcases List.mem_cons.1 h2 with h2 | h2
   ·
    exact h2.symm
   have h3 := hb'.1 x h1
   have h4 := ha'.1 y h2
   rw [less_asymm h3] at h4
   cases h4
  subst e
  have := up_eq ha'.2 hb'.2 fun z => by
   constructor
   ·
    intro hz
    rcases List.mem_cons.1 ((h z).1 (by simp [hz])) with h1 | h1
    ·
     subst h1; have := ha'.1 z hz; rw [less_irrefl] at this; cases this
    ·
     exact h1
   ·
    intro hz
    rcases List.mem_cons.1 ((h z).2 (by simp [hz])) with h1 | h1
    ·
     subst h1; have := hb'.1 z hz; rw [less_irrefl] at this; cases this
    ·
     exact h1
  rw [this]
def ins (d : Dig) : List Dig → List Dig
 | [] => [d]
 | x :: r => if lessB x d = true then x :: ins d r else if x = d then x :: r else d :: x :: r
theorem sortedD_mem (l : List Dig) (y : Dig) : y ∈ sortedD l ↔ y ∈ l := (List.mergeSort_perm l _).mem_iff
theorem sortedD_length (l : List Dig) : (sortedD l).length = l.length := (List.mergeSort_perm l _).length_eq
theorem sortedD_up {l : List Dig} (h : l.Nodup) : Up (sortedD l) := by
 have h1 : (sortedD l).Pairwise fun x y => (!(ltOf cfD) y x) = true := List.pairwise_mergeSort (le := fun x y => !(ltOf cfD) y x) (fun a b c h k => by
   simp only [lt_cfD, Bool.not_eq_true'] at h k ⊢
   have := swo_cfD.ntrans c b a (by rw [lt_cfD]; exact k) (by rw [lt_cfD]; exact h)
   rwa [lt_cfD] at this) (fun a b => by
   simp only [lt_cfD, Bool.or_eq_true, Bool.not_eq_true']
   cases hc : lessB b a with
   | false => exact .inl rfl
   | true => exact .inr (less_asymm hc)) l
 have h2 : (sortedD l).Nodup := (List.mergeSort_perm l _).nodup_iff.2 h
 refine (h1.and h2).imp fun {a b} hab => ?_
 have h3 := hab.1
 simp only [lt_cfD, Bool.not_eq_true'] at h3
 cases hc : lessB a b with
 | true => rfl
 | false => exact absurd (less_tri hc h3) hab.2
def addR (keep : OpD → Bool) (out : List Dig) (o : OpD) : List Dig := if keep o = true ∧ ¬ o.at_.c ∈ out then out ++ [o.at_.c] else out
end Go.Pl
/- slices.SortFunc at digests of our own, whatever the comparing function that tells the digests' order. No condition. -/
namespace Go.Proofs.YtmehkigmnpjcjaaDoor
open Go.RowKit Go.Fw Go.Pl Go.Sort
instance : Inhabited Dig := ⟨Dig.zero⟩
theorem sort_gen {f : Nat} {fn : Func} {c : Code} (cf : Dig → Dig → Int) (hcf : ∀ a b, ltOf cf a b = lessB a b) (hf : Tryd.prog.funcs[f]? = some fn) (hnm : (fn.name == "runtime.NumGoroutine") = false) (hbd : fn.body = some c)
  (hcmp : ∀ (a b : Dig) (w : World), Calls Tryd.prog f #[digV a, digV b] w (Ret fun v w' => v = .int .i64 (cf a b) ∧ Ext w w'))
  (A : Option Addr) (m c : Nat) (l : List Dig) (w : World) (hO : Own w TDg 32 (.slice A m c) (flatD l)) (hs : l.length < 4611686018427387904) : Calls Tryd.prog 70 #[.slice A m c, .func (.func f) #[] #[]] w (Ret fun v w' => v = .tuple #[] ∧ Own w' TDg 32 (.slice A m c) (flatD (sortedD l)) ∧ Chg (fun k => (Value.slice A m c).ownBlock = some k) w w') := by
 have hlt : ltOf cf = ltOf cfD := by funext a b; rw [hcf, lt_cfD]
 obtain ⟨hlen, hmc, hcm⟩ := hO.len digC_length de_
 unfold maxLen at hcm
 by_cases h0 : l = []
 ·
  subst h0
  simp at hlen
  subst hlen
  refine (AnyF.slices_SortFunc_none sortD A c _ w).mono fun e w' h => ?_
  obtain ⟨rfl, rfl⟩ := h
  exact ⟨rfl, by unfold sortedD; rw [List.mergeSort_nil]; exact hO, Chg.refl⟩
 ·
  obtain ⟨g, rfl, hg⟩ := hO.head (by
   intro h
   have := congrArg List.length h
   rw [flat_length digC_length, List.length_nil] at this
   cases l with
   | nil => exact h0 rfl
   | cons _ _ => simp at this)
  obtain ⟨hH, hblk⟩ := hO.holds de_ digC_length
  have hC : CmpLays Tryd.prog f #[] digC 32 cf g 0 l.toArray.size w := fun mm os dk _ x y => by
   rw [Array.append_empty]
   refine (hcmp x y _).mono fun e w' h => ?_
   cases e with
   | returned v => obtain ⟨rfl, hx⟩ := h; exact ⟨rfl, hx.grown⟩
   | panicked ch => exact h.elim
   | outgrown => exact h.elim
  have hcon := AnyQ.slices_SortFunc_total sortD 32 Tryd.isAgg36 Tryd.sizeOf36 digC digC_length (fun x v hv => one_digC v hv) cf (hlt ▸ swo_cfD) f #[] g 0 c l.toArray w (enters_of hf hnm hbd) hC hH hblk (by simpa using hs) (fun x y h k => by rw [hcf] at h k; exact less_tri h k)
  subst hlen
  refine Calls.mono (R := fun e w' => e = .returned (.tuple #[]) ∧ ∃ n os, w' = sortWorldK digC 32 w g 0 n (l.toArray.toList.mergeSort fun x y => !(ltOf cf) y x).toArray os) hcon fun e w' h => ?_
  obtain ⟨rfl, n, os, rfl⟩ := h
  obtain ⟨h1, h2⟩ := hO.sorted (l' := sortedD l) de_ digC_length (sortedD_length l) n os
  have e : (l.toArray.toList.mergeSort fun x y => !(ltOf cf) y x) = sortedD l := by rw [hlt]; rfl
  rw [e]
  refine ⟨rfl, h1, h2.mono fun b _ hb => by rw [hb]; rfl⟩
end Go.Proofs.YtmehkigmnpjcjaaDoor
