/- Parts of a proof: what its last text leans on. No condition. -/
import Derived.Test.YtjbeooimhoilmaaGreatDoorChecked
import Derived.Test.YtjbeooimhoilmaaGreatDoorRows
import Derived.Lib.LaidTab
import Derived.LaidHandle
import Derived.Stop.Joined
import Derived.Deep.DeepHandedRow
import Derived.MapKept
import Derived.WideKeyRuns
import Derived.ChangeMaps4
import Derived.DeepKeys3
import Derived.Test.YtjbeooimhoilmaaGreatDoorK02
import Derived.Test.YtjbeooimhoilmaaGreatDoorK03
import Derived.Test.YtjbeooimhoilmaaGreatDoorK07
import Derived.Test.YtjbeooimhoilmaaGreatDoorK08
set_option linter.unusedSimpArgs false
set_option linter.unusedVariables false
/- The api's types as arguments of this program: closed facts. No condition. -/
namespace Go.Proofs.YtjbeooimhoilmaaGreatDoor
open Go.RowKit Go.Fw Go.WideShapes Go.ChangeShapes
theorem own0 : ownKnob Tryz.prog.godebug = none := by kernel_rfl
theorem laidOut0 : laidOutB Tryz.prog = true := by kernel_rfl
theorem rd_dig : RdW Tryz.prog 43 (fun _ cs => ∃ d, cs = digC d) := RdW.dig Tryz.underlying43 Tryz.underlying5 (by kernel_rfl) (by kernel_rfl)
theorem rd_ref : RdW Tryz.prog 68 (fun _ cs => ∃ r, cs = refC r ∧ InI64 r.n) :=
 RdW.ref Tryz.underlying68 (by kernel_rfl) (RdW.bool Tryz.underlying4) rd_dig (RdW.int Tryz.underlying3) rfl rfl rfl (by kernel_rfl) (by kernel_rfl) (by kernel_rfl)
theorem rd_op : RdW Tryz.prog 70 (fun _ cs => ∃ x, cs = opC x ∧ InI64 x.kind ∧ InI64 x.at_.n) :=
 RdW.op Tryz.underlying70 (by kernel_rfl) (RdW.int Tryz.underlying3) (RdW.bool Tryz.underlying4) rd_ref (RdW.u8 Tryz.underlying5) rfl rfl rfl rfl (by kernel_rfl) (by kernel_rfl) (by kernel_rfl) (by kernel_rfl)
theorem bytes_op : Tryz.prog.bytesOf 70 = 72 := by kernel_rfl
theorem rd_com : RdW Tryz.prog 48 (fun w cs => ∃ c, ComIn w (.agg cs.toArray) c) :=
 RdW.com Tryz.underlying48 (by kernel_rfl) Tryz.underlying24 (by kernel_rfl) (by kernel_rfl) rd_dig Tryz.underlying9 Tryz.underlying9 Tryz.underlying46 (by kernel_rfl) bytes_op rd_op
  rfl rfl rfl rfl (by kernel_rfl) (by kernel_rfl) (by kernel_rfl) (by kernel_rfl)
section
variable {H : Type} {en : TypeId × Value → H} {w : World} {v : Value} {d : DataW H} {ps : List MemPlace} {base : Nat}
end
end Go.Proofs.YtjbeooimhoilmaaGreatDoor
/- What a row of this seat lists ('digest.keys'), as the contracts want it; a world that meets it. No condition. -/
namespace Go.Fw
open Go.RowKit Go.WideShapes Go.ChangeShapes Go.ChangeAt Go.Deep
section
variable {H : Type} {enc : TypeId × Value → H}
theorem mem_of_tab {P : Program} {W : World} {name : String} {k : IntKind} {zs : List Int} {g : Nat} (h : Lib.TabIs P W name k zs) (hg : P.globalNamed name = some g) : Mem W ⟨g, 0, none⟩ (zs.map fun z => Value.int k z) := fun j v hj => by
 have hjl : j < zs.length := by simpa using (List.getElem?_eq_some_iff.1 hj).1
 have e : (⟨g, 0, none⟩ : Addr).add j = ⟨g, j, none⟩ := by unfold Addr.add; split <;> simp_all
 rw [e, h.cell hg j hjl]
 have : zs[j]? = some (zs.getD j 0) := by simp [List.getD, hjl]
 rw [List.getElem?_map, this] at hj
 simpa using hj
end
end Go.Fw
namespace Go.Proofs.YtjbeooimhoilmaaGreatDoor
open Go.RowKit Go.Fw Go.Pl
theorem keysT : (Tryz.prog.globals[0]?).map (·.type) = some 199 := by kernel_rfl
theorem keysNamed : Tryz.prog.globalNamed "recension/digest.keys" = some 0 := by kernel_rfl
theorem keys_cells32 : Tryz.prog.cellsOf 143 = 1 := by kernel_rfl
theorem keys_cellsK : Tryz.prog.cellsOf 199 = 64 := by kernel_rfl
theorem keys_laid : (Rows.laid_recension_digest_keys : DataW Unit) = Lib.tabData .u32 (keysL.map fun x => (x.toNat : Int)) := by kernel_rfl
abbrev laidL : List (String × DataW Unit) := [("recension/digest.keys", Rows.laid_recension_digest_keys)]
theorem keys_of_laid {W : World} (h : laidMetH Tryz.prog laidL W) : Mem W ⟨0, 0, none⟩ (wds keysL) := by
 have h' : laidMet Tryz.prog laidL W := h
 unfold laidL at h'
 rw [keys_laid] at h'
 have hT := Lib.tabIs_of_head keysNamed keysT Tryz.underlying199 Tryz.underlying143 keys_cells32 keys_cellsK h'
 have := mem_of_tab hT keysNamed
 rw [List.map_map] at this
 exact this
noncomputable def laidWorld (os : Os) : World :=
 let w0 := World.holding Tryz.prog os ⟨#[], #[], []⟩
 { w0 with heap := w0.heap.modify 0 fun
   | .cells _ t frozen => .cells (wds keysL).toArray t frozen
   | o => o }
end Go.Proofs.YtjbeooimhoilmaaGreatDoor
/- From a contract to a row that lists variables and whose specification bears a condition. No condition; no program. -/
namespace Go.Fw
open Go.RowKit Go.WideShapes Go.ChangeShapes Go.ChangeAt Go.Deep
section
variable {H : Type} {enc : TypeId × Value → H}
theorem law_lifted_row {C : Checked} {os : Os} {f : FuncId} {fn : Func} {s : OpenSpec} {c : ChangeSpec} {k : (H : Type) → List (DataW H) → Bool} (hk : s.cond = some k) {F : Stop.Interp} (hat : s.at F = c) {laid : List (String × DataW Unit)} {conds : List PathCond} {apart fresh handsOn again : Bool} {tb : TypeId}
  (own : ownKnob C.prog.godebug = none) (started : os.Started) (noInit : C.prog.inits.idxOf? f = none) (hfn : C.prog.funcs[f]? = some fn)
  (witness : ∃ (w : World) (tape : Tape) (i : Input), w.os = os ∧ (w.forCall tape i).Shaped C.prog ∧ i.vars = [] ∧ Input.okWide C.prog (w.forCall tape i) .any w.heap.size f i ∧
   s.preRow enc C.prog fn conds apart laid (w.forCall tape i).memory i.args ∧ ({} : Assume).holds C.prog (lone (Frame.enter C.prog f i.args .normal) [] (w.forCall tape i)))
  (hl : laidOutB C.prog = true) (hr : fn.params.toList.all (fun t => C.prog.readableRec t && decide (t < C.prog.types.size)) = true)
  (hres : fn.resultTypes = #[tb]) (hb : C.prog.underlying tb = some .bool) (hvars : s.vars = []) (hcv : c.vars = []) (hbv : s.bare.plain.varTypes C.prog = [])
  (hspec : ∀ ds : List (DataW H), ds.length = fn.params.toList.length → c.fn H ds = { results := [.lit (.bool true)], args := ds })
  (contract : ∀ (W : World) (base : Nat) (args : Array Value) (ds : List (DataW H)) (ps : List MemPlace),
   (∀ (j : Nat) t v, fn.params[j]? = some t → args[j]? = some v → Value.okWide C.prog W .any base t v) →
   DataW.TrodAll enc C.prog W 0 (fun _ => true) true fn.params.toList args.toList ds ps → (∀ p ∈ ps, p.block < W.heap.size) →
   (DataW.weightsEach C.prog fn.params.toList ds).all (· ≤ reachBytes) = true → W.noneFrozen ps → k H ds = true → laidMetH C.prog laid W →
   Calls C.prog f args W (Ret fun v W' => v = .bool true ∧ Ext W W')) :
  ReturnsInHanded {} C os f .any (s.preRow enc C.prog fn conds apart laid) ((s.at F).post enc C.prog fn apart fresh handsOn again) := by
 refine returnsInHanded_of_row own started noInit hfn witness ?_
 intro W base args ds gs before hval hW _ hkk hsz hLL _ _
 have hkk := hkk k hk
 rw [hat]
 rw [hvars] at hW
 have hW' : DataW.Whole enc C.prog fn.params.toList c.vars apart W args.toList ds gs before := by rw [hcv]; exact hW
 have hlt := hW.lt
 obtain ⟨p, q, hA, hV, rfl, hfz, _⟩ := hW
 obtain ⟨rfl, rfl⟩ := trodVars_none hV
 rw [hbv] at hsz
 simp only [List.append_nil] at hsz hW' hlt hfz hkk
 have hlen : ds.length = fn.params.toList.length := by
  have key : ∀ (ts : List TypeId) (vs : List Value) (ds : List (DataW H)) (ps : List MemPlace), DataW.TrodAll enc C.prog W 0 (fun _ => true) true ts vs ds ps → ds.length = ts.length := by
   intro ts
   induction ts with
   | nil => intro vs ds ps h; obtain ⟨_, rfl, _⟩ := trodAll_nil h; rfl
   | cons t ts ih => intro vs ds ps h; obtain ⟨_, _, _, _, _, _, _, rfl, _, _, h2⟩ := trodAll_cons h; simp [ih _ _ _ h2]
  exact key _ _ _ _ hA
 refine (contract W base args ds p hval hA (fun x hx => hlt x hx) hsz hfz hkk hLL).mono fun e W' he => ?_
 cases e with
 | returned v =>
  obtain ⟨rfl, hx⟩ := he
  have hs := hspec ds hlen
  have hbel := hx.below
  have hrr : ∀ t ∈ fn.params.toList, C.prog.readableRec t = true ∧ t < C.prog.types.size := fun t ht => by
   have := List.all_eq_true.1 hr t ht
   simpa using this
  refine ⟨_, rfl, post_below (pa := p) (pv := []) hW' (fun b sp hd => ?_) (fun sp hsp => ?_) (fun sp _ => ?_) (by simp) hbel ?_⟩
  ·
   rw [List.append_nil, hs, hres]; exact trodAll_mk1 (shut_bool hb _)
  ·
   rw [List.append_nil, hs]; exact trodAll_below hl hbel hrr hA hlt hsp
  ·
   rw [List.append_nil, hs, hcv]; rfl
  ·
   intro j t r h1 h2
   rw [hres] at h1 h2
   cases j with
   | zero =>
    simp [Value.resultList] at h1 h2
    subst h1; subst h2
    exact okWide_bool_mk hb _
   | succ j => simp at h1
 | panicked ch => exact he.elim
 | outgrown => exact he.elim
end
end Go.Fw
namespace Go.Proofs.YtjbeooimhoilmaaGreatDoor
open Go.RowKit Go.Fw Go.WideShapes Go.ChangeShapes Go.ChangeAt Go.Deep
theorem bulk_one {H : Type} (d : DataW H) : 1 ≤ Rows.uptoBulk d := by
 cases d with
 | lit l => cases l <;> simp [Rows.uptoBulk]
 | nil => simp [Rows.uptoBulk]
 | ptr d => simp [Rows.uptoBulk]
 | slice elems spare => simp [Rows.uptoBulk]
 | agg parts => simp [Rows.uptoBulk]
 | iface t d => simp [Rows.uptoBulk]
 | map entries => simp [Rows.uptoBulk]
 | held h => simp [Rows.uptoBulk]
theorem bulk_part {H : Type} {d : DataW H} {l : List (DataW H)} (h : d ∈ l) : Rows.uptoBulk d ≤ Rows.uptoBulkAll l := by
 induction l with
 | nil => cases h
 | cons x r ih =>
  simp only [Rows.uptoBulkAll]
  cases List.mem_cons.1 h with
  | inl e => subst e; omega
  | inr e => have := ih e; omega
theorem bulk_length {H : Type} (l : List (DataW H)) : l.length ≤ Rows.uptoBulkAll l := by
 induction l with
 | nil => simp [Rows.uptoBulkAll]
 | cons x r ih => have := bulk_one x; simp only [Rows.uptoBulkAll, List.length_cons]; omega
theorem bulk_bound {H : Type} {l : List (DataW H)} (hk : Rows.uptoSmall H l = true) : Rows.uptoBulkAll l ≤ 1048576 := of_decide_eq_true hk
theorem bulk_slice {H : Type} {en : TypeId × Value → H} {P : Program} {w : World} {t e : TypeId} {base : Nat} {spare : Nat → Bool} {held : Bool} {A : Option Addr} {m c fuel : Nat} {d : DataW H} {ps : List MemPlace} (ht : P.underlying t = some (.slice e)) (h : DataW.trod en P w base spare held fuel t [.slice A m c] = some (d, ps)) : m ≤ Rows.uptoBulk d := by
 rcases open_slice ht h with ⟨hv, _⟩ | ⟨a, len, cap, m', n, D, Pl, hv, hb, hl, hm, hmm, hx, hi⟩
 ·
  cases hv; exact Nat.zero_le _
 ·
  cases hv
  injection hx with h1 h2
  cases h1
  have := bulk_length ((List.range m).map D)
  simp only [Rows.uptoBulk]
  simp only [List.length_map, List.length_range] at this
  omega
end Go.Proofs.YtjbeooimhoilmaaGreatDoor
/- A slice of bytes as an argument of this program. No condition. -/
namespace Go.Fw
open Go.RowKit
theorem flat_bytes : ∀ xs : List UInt8, (xs.map fun b => [bc b]).flatten = bytesC xs
 | [] => rfl
 | x :: xs => by simp only [List.map_cons, List.flatten_cons, flat_bytes xs]; rfl
theorem Sl.by {w : World} {v : Value} {xs : List UInt8} (h : Sl w (fun b => [bc b]) 1 v xs) : By w v xs := by
 obtain ⟨A, c, rfl, hmc, hcm⟩ := h.lens
 obtain ⟨hl, _, _, hA⟩ := Sl.flat (k := 1) (fun _ => rfl) h
 rw [flat_bytes] at hA
 refine ⟨A, xs.length, c, rfl, rfl, hmc, hcm, hA, ?_⟩
 rintro rfl
 rcases Nat.eq_zero_or_pos xs.length with h0 | h0
 ·
  exact h0
 ·
  obtain ⟨a, h, _⟩ := hA h0; cases h
end Go.Fw
namespace Go.Proofs.YtjbeooimhoilmaaGreatDoor
open Go.RowKit Go.Fw Go.WideShapes Go.ChangeShapes
end Go.Proofs.YtjbeooimhoilmaaGreatDoor
/- Maps as rules of the calculus: made, looked up, written, cut, counted. Keys of whatever type whose equality is known. No condition; no program. -/
namespace Go.Fw
open Go.RowKit
structure KeyEq (P : Program) (k : TypeId) {α : Type} [DecidableEq α] (enc : α → Value) : Prop where
 eq : ∀ (w : World) (a b : α), (Op.equal k (enc a) (enc b)).run P w = .ok (decide (a = b)) w
 check : ∀ (w : World) (em : Bool) (a : α), (Instr.checkKey em 10000 k (enc a)).run P w = .ok () w
 wide : (match P.underlying k with | some (.array _ _) | some (.struct _) => true | _ => false) = true
 same : ∀ a : α, Instr.sameBits 10000 (enc a) (enc a) = true
section
variable {P : Program} {k : TypeId} {α β : Type} [DecidableEq α] {enc : α → Value}
def mfind (key : β → α) (a : α) : List β → Nat → Option (Nat × β)
 | [], _ => none
 | e :: r, i => if key e = a then some (i, e) else mfind key a r (i + 1)
theorem mfind_none {key : β → α} {a : α} : ∀ {l : List β} {i : Nat}, mfind key a l i = none → ∀ e ∈ l, key e ≠ a
 | [], _, _, e, he => by cases he
 | x :: r, i, h, e, he => by
  unfold mfind at h
  split at h
  ·
   cases h
  ·
   rename_i hne
   rcases List.mem_cons.1 he with rfl | he
   ·
    exact hne
   ·
    exact mfind_none h e he
theorem mfind_some {key : β → α} {a : α} : ∀ {l : List β} {i j : Nat} {e : β}, mfind key a l i = some (j, e) → i ≤ j ∧ l[j - i]? = some e ∧ key e = a
 | [], _, _, _, h => by cases h
 | x :: r, i, j, e, h => by
  unfold mfind at h
  split at h
  ·
   rename_i hk
   cases h
   exact ⟨Nat.le_refl _, by simp, hk⟩
  ·
   obtain ⟨h1, h2, h3⟩ := mfind_some h
   refine ⟨by omega, ?_, h3⟩
   rw [show j - i = (j - (i + 1)) + 1 by omega, List.getElem?_cons_succ]
   exact h2
theorem run_findAsking (K : KeyEq P k enc) (w : World) (a : α) (key : β → α) (me : β → MapEntry) (hme : ∀ e, (me e).key = enc (key e)) : ∀ (l : List β) (i : Nat),
  (Instr.findAsking k (enc a) (l.map me) i).run P w = .ok ((mfind key a l i).map fun p => (p.1, (me p.2).val)) w
 | [], i => by simp [Instr.findAsking, mfind]
 | e :: r, i => by
  simp only [List.map_cons, Instr.findAsking, Sem.run_bind, hme, K.eq, Result.andThen_ok, mfind]
  by_cases h : key e = a
  ·
   simp [h]
  ·
   have h' : ¬ a = key e := fun x => h x.symm
   simp only [h, h', decide_false, Bool.false_eq_true, if_false]
   exact run_findAsking K w a key me hme r (i + 1)
theorem run_findKey (K : KeyEq P k enc) (w : World) (a : α) (key : β → α) (me : β → MapEntry) (hme : ∀ e, (me e).key = enc (key e)) (l : List β) :
  (Instr.findKey k (enc a) (l.map me)).run P w = .ok ((mfind key a l 0).map fun p => (p.1, (me p.2).val)) w := by
 rw [run_findKey_eq w K.wide]
 exact run_findAsking K w a key me hme l 0
end
def mval {β : Type} (me : β → MapEntry) (z : Value) : Option (Nat × β) → Value
 | some p => (me p.2).val
 | none => z
def MapAt {β : Type} (w : World) (r : Nat) (me : β → MapEntry) (l : List β) (clock : Nat) : Prop := w.heap[r]? = some (.map (l.map me).toArray clock)
section
variable {β : Type} {w w' : World} {r : Nat} {me : β → MapEntry} {l : List β} {clock : Nat} {S : Nat → Prop}
theorem MapAt.lt (h : MapAt w r me l clock) : r < w.heap.size := (Array.getElem?_eq_some_iff.1 h).1
theorem MapAt.chg (h : MapAt w r me l clock) (hc : Chg S w w') (hs : ¬ S r) : MapAt w' r me l clock := (hc.block r h.lt hs).trans h
theorem MapAt.ext (h : MapAt w r me l clock) (hc : Ext w w') : MapAt w' r me l clock := h.chg hc (fun f => f)
end
theorem chg_setBlock {S : Nat → Prop} {w : World} {r : Nat} {o : Obj} (h : S r) : Chg S w { w with heap := w.heap.setIfInBounds r o } :=
 ⟨rfl, rfl, rfl, by simp, fun k hk hn => by
  have : r ≠ k := by rintro rfl; exact hn h
  simp [Array.getElem?_setIfInBounds, this], Nat.le_refl _⟩
theorem heap_setBlock {w : World} {r : Nat} {o : Obj} (h : r < w.heap.size) : ({ w with heap := w.heap.setIfInBounds r o } : World).heap[r]? = some o := by
 simp [Array.getElem?_setIfInBounds, h]
def Su (P : Program) (n : NN) (fr : Fr) (o : Op) (ty : TypeId) (w : World) (R : World → Prop) : Prop :=
 ∀ a (o' : Oper), o'.op = o → o'.type = ty → Rep n a fr → ∃ w', ((execOp a.eval o').run P w = .ok .skip w' ∨ ∃ v, (execOp a.eval o').run P w = .ok (.value v) w') ∧ R w'
section
variable {P : Program} {n : NN} {Φ : Exit → Fr → World → Prop} {fr : Fr} {w : World} {ty : TypeId} {R : World → Prop}
theorem WL.su {ops : Array Oper} {rest : List Oper} {o : Op} {pos : String} {aft : Array Edge}
  (hs : Su P n fr o ty w R) (h : ∀ w', R w' → WL P ops n Φ rest fr w') : WL P ops n Φ (⟨none, o, ty, pos, aft, none⟩ :: rest) fr w := fun a ha =>
 wpList_plain rfl fun K hK => by
  obtain ⟨w', hr, hR⟩ := hs a ⟨none, o, ty, pos, aft, none⟩ rfl rfl ha
  unfold Oper.wp
  rcases hr with hr | ⟨v, hr⟩
  ·
   rw [hr]; exact hK _ _ (h w' hR _ ha)
  ·
   rw [hr]; exact hK _ _ (h w' hR _ ha)
theorem RS.su {ops : Array Oper} {S : World → Prop} {fuel : Nat} {listed : Array Bool} {i : Nat} {o : Op} {pos : String} {aft : Array Edge}
  (hi : ops[i]? = some ⟨none, o, ty, pos, aft, none⟩) (hs : Su P n fr o ty w R)
  (h : ∀ w', R w' → S w' ∧ RH P ops S n Φ fuel (listed.setIfInBounds i true) fr w') : RS P ops S n Φ fuel listed i fr w := fun a ha => by
 obtain ⟨w', hr, hR⟩ := hs a ⟨none, o, ty, pos, aft, none⟩ rfl rfl ha
 obtain ⟨h1, h2⟩ := h w' hR
 unfold wpOp
 rw [hi]
 simp only [Region.wanted, if_true]
 refine .inl ?_
 unfold Oper.wp
 rcases hr with hr | ⟨v, hr⟩
 ·
  rw [hr]; exact ⟨h1, h2 _ ha⟩
 ·
  rw [hr]; exact ⟨h1, h2 _ ha⟩
theorem St.makeMap {t : TypeId} : St P n fr (.makeMap t none) ty w (fun v w' => ∃ r, v = .map (some r) ∧ w.heap.size ≤ r ∧ (∀ (β : Type) (me : β → MapEntry), MapAt w' r me ([] : List β) 0) ∧ Ext w w') := fun a o' ho hty ha => by
 refine ⟨.map (some w.heap.size), w.alloc (.map #[] 0), ?_, w.heap.size, rfl, Nat.le_refl _, fun β me => ?_, Chg.alloc _⟩
 ·
  simp [execOp, ho, Instr.makeMap, newObj, Sem.run]
 ·
  exact heap_alloc_new w _
theorem St.makeMapN {t k e : TypeId} {x : Operand} {q : IntKind} {i : Int} (hT : P.underlying t = some (.map k e)) (hx : ev fr x = some (.int q i)) : St P n fr (.makeMap t (some x)) ty w (fun v w' => ∃ r, v = .map (some r) ∧ w.heap.size ≤ r ∧ (∀ (β : Type) (me : β → MapEntry), MapAt w' r me ([] : List β) 0) ∧ Ext w w') := fun a o' ho hty ha => by
 refine ⟨.map (some w.heap.size), w.alloc (.map #[] 0), ?_, w.heap.size, rfl, Nat.le_refl _, fun β me => ?_, Chg.alloc _⟩
 ·
  simp [execOp, ho, Instr.makeMap, newObj, run_underlying hT, ha.ev hx, asInt, Sem.run]
  rfl
 ·
  exact heap_alloc_new w _
theorem Y.len_map {x : Operand} {t k e : TypeId} {r clock : Nat} {β : Type} {me : β → MapEntry} {l : List β} (hT : P.underlying t = some (.map k e)) (hx : ev fr x = some (.map (some r))) (hm : MapAt w r me l clock) :
  Yw P n fr (.call { callee := .builtin .len, args := #[x], argTypes := #[t] }) ty w (.int .i64 (l.length : Int)) w := fun a o' ho _ ha => by
 have h1 := MapKept.run_getObj_map (P := P) hm
 simp [execOp, ho, resolve, invoke, builtin, ha.ev hx, Builtin.len_, run_underlying hT, h1, goInt]
section keyed
variable {α β : Type} [DecidableEq α] {enc : α → Value} {key : β → α} {me : β → MapEntry} {l : List β} {clock r : Nat} {t k e : TypeId}
theorem Y.lookupOk {x y : Operand} {a : α} {z : Value} (K : KeyEq P k enc) (hme : ∀ e, (me e).key = enc (key e)) (hT : P.underlying t = some (.map k e)) (hz : ∀ w, (zeroValue e).run P w = .ok z w)
  (hx : ev fr x = some (.map (some r))) (hy : ev fr y = some (enc a)) (hm : MapAt w r me l clock) :
  Yw P n fr (.lookup t x y true) ty w (.tuple #[mval me z (mfind key a l 0), .bool (mfind key a l 0).isSome]) w := fun b o' ho _ ha => by
 have h1 := MapKept.run_getObj_map (P := P) hm
 have h2 := run_findKey K w a key me hme l
 have h3 := fun em => K.check w em a
 cases hf : mfind key a l 0 with
 | none => rw [hf] at h2; simp [mval, execOp, ho, ha.ev hx, ha.ev hy, Instr.lookup, run_underlying hT, h1, h3, h2, hz]
 | some p => rw [hf] at h2; simp [mval, execOp, ho, ha.ev hx, ha.ev hy, Instr.lookup, run_underlying hT, h1, h3, h2]
theorem Y.lookup {x y : Operand} {a : α} {z : Value} (K : KeyEq P k enc) (hme : ∀ e, (me e).key = enc (key e)) (hT : P.underlying t = some (.map k e)) (hz : ∀ w, (zeroValue e).run P w = .ok z w)
  (hx : ev fr x = some (.map (some r))) (hy : ev fr y = some (enc a)) (hm : MapAt w r me l clock) :
  Yw P n fr (.lookup t x y false) ty w (mval me z (mfind key a l 0)) w := fun b o' ho _ ha => by
 have h1 := MapKept.run_getObj_map (P := P) hm
 have h2 := run_findKey K w a key me hme l
 have h3 := fun em => K.check w em a
 cases hf : mfind key a l 0 with
 | none => rw [hf] at h2; simp [mval, execOp, ho, ha.ev hx, ha.ev hy, Instr.lookup, run_underlying hT, h1, h3, h2, hz]
 | some p => rw [hf] at h2; simp [mval, execOp, ho, ha.ev hx, ha.ev hy, Instr.lookup, run_underlying hT, h1, h3, h2]
theorem Y.lookupAt {x y : Operand} {a : α} {v : Value} {p : Nat × β} (K : KeyEq P k enc) (hme : ∀ e, (me e).key = enc (key e)) (hT : P.underlying t = some (.map k e))
  (hx : ev fr x = some (.map (some r))) (hy : ev fr y = some (enc a)) (hm : MapAt w r me l clock) (hf : mfind key a l 0 = some p) (hv : (me p.2).val = v) :
  Yw P n fr (.lookup t x y false) ty w v w := fun b o' ho _ ha => by
 have h1 := MapKept.run_getObj_map (P := P) hm
 have h2 := run_findKey K w a key me hme l
 have h3 := fun em => K.check w em a
 rw [hf] at h2
 simp [execOp, ho, ha.ev hx, ha.ev hy, Instr.lookup, run_underlying hT, h1, h3, h2, hv]
theorem Su.mapNew {x y z : Operand} {a : α} {v : Value} {b : β} (K : KeyEq P k enc) (hme : ∀ e, (me e).key = enc (key e)) (hT : P.underlying t = some (.map k e))
  (hx : ev fr x = some (.map (some r))) (hy : ev fr y = some (enc a)) (hzv : ev fr z = some v) (hm : MapAt w r me l clock) (hf : mfind key a l 0 = none) (hb : me b = { key := enc a, val := v, born := clock }) :
  Su P n fr (.mapUpdate t x y z) ty w (fun w' => MapAt w' r me (l ++ [b]) (clock + 1) ∧ Chg (· = r) w w') := fun c o' ho _ ha => by
 have h1 := MapKept.run_getObj_map (P := P) hm
 have h2 := run_findKey K w a key me hme l
 have h3 := fun em => K.check w em a
 rw [hf] at h2
 refine ⟨{ w with heap := w.heap.setIfInBounds r (.map ((l ++ [b]).map me).toArray (clock + 1)) }, .inl ?_, heap_setBlock hm.lt, chg_setBlock rfl⟩
 have h4 := MapKept.run_setObj_map (P := P) (.map ((l.map me).toArray.push { key := enc a, val := v, born := clock }) (clock + 1)) hm
 simp only [execOp, ho, ha.ev hx, ha.ev hy, ha.ev hzv, Instr.mapUpdate, Sem.run_bind, run_underlying hT, h1, Result.andThen_ok, h3, h2, Option.map_none, h4]
 simp [hb]
end keyed
end
end Go.Fw
/- Digests as a map's keys. No condition. -/
namespace Go.Fw
open Go.RowKit
theorem mapM_some {α β : Type} {f : α → Option β} : ∀ {l : List α}, (∀ x ∈ l, ∃ y, f x = some y) → ∃ ys, l.mapM f = some ys
 | [], _ => ⟨[], rfl⟩
 | x :: r, h => by
  obtain ⟨y, hy⟩ := h x (by simp)
  obtain ⟨ys, hys⟩ := mapM_some (l := r) fun z hz => h z (by simp [hz])
  exact ⟨y :: ys, by simp [List.mapM_cons, hy, hys]⟩
theorem sameBits_self {n : Nat} : ∀ {cs : List Value}, (∀ u ∈ cs, Instr.sameBits n u u = true) → Instr.sameBits (n + 1) (.agg cs.toArray) (.agg cs.toArray) = true := by
 intro cs h
 simp only [Instr.sameBits, beq_self_eq_true, Bool.true_and]
 rw [List.all_eq_true]
 rintro ⟨x, y⟩ hp
 have hxy : x = y ∧ x ∈ cs := by
  obtain ⟨i, hi⟩ := List.mem_iff_getElem?.1 hp
  rw [List.getElem?_zip_eq_some] at hi
  obtain ⟨h1, h2⟩ := hi
  exact ⟨Option.some.inj (h1.symm.trans h2), List.mem_of_getElem? h1⟩
 obtain ⟨rfl, hx⟩ := hxy
 exact h x hx
end Go.Fw
namespace Go.Proofs.YtjbeooimhoilmaaGreatDoor
open Go.RowKit Go.Fw
theorem cells_u8 : Tryz.prog.cellsOf 5 = 1 := by kernel_rfl
theorem cells_dig : Tryz.prog.cellsOf 43 = 32 := by kernel_rfl
theorem keyLits_u8 (D : Nat) (b : UInt8) : Tryz.prog.keyLits (D + 1) 5 [bc b] = some [.int .u8 (b.toNat : Int)] := by
 have hw : (Lit.int .u8 (b.toNat : Int)).wf = true := by
  have := b.toNat_lt
  simp only [Lit.wf, IntKind.min, IntKind.max, IntKind.bits, IntKind.signed]
  simp
  omega
 simp only [Program.keyLits, Tryz.underlying5, bc, hw]
 simp
theorem keyLits_dig (D : Nat) (d : Dig) : ∃ la, Tryz.prog.keyLits (D + 2) 43 (digC d) = some la := by
 obtain ⟨ys, hys⟩ := mapM_some (l := List.range 32) (f := fun i => Tryz.prog.keyLits (D + 1) 5 (((digC d).drop (i * 1)).take 1)) (by
  intro i hi
  rw [List.mem_range] at hi
  have hd := d.2
  have : ((digC d).drop (i * 1)).take 1 = [bc (d.1[i]'(by omega))] := by
   rw [Nat.mul_one, digC, bytesC, ← List.map_drop, List.drop_eq_getElem_cons (by omega)]
   rfl
  rw [this]
  exact ⟨_, keyLits_u8 D _⟩)
 refine ⟨ys.flatten, ?_⟩
 have e : Tryz.prog.keyLits ((D + 1) + 1) 43 (digC d) = ((List.range 32).mapM fun i => Tryz.prog.keyLits (D + 1) 5 (((digC d).drop (i * 1)).take 1)).map List.flatten := by
  conv => lhs; unfold Program.keyLits
  simp only [Tryz.underlying43, cells_dig, cells_u8, digC_length, if_true]
 rw [show D + 2 = (D + 1) + 1 from rfl, e, hys]
 rfl
theorem keyDig : KeyEq Tryz.prog 43 (fun d : Dig => digV d) where
 eq w a b := eqIn_dig 9998 a b w
 check w em a := by
  obtain ⟨la, hla⟩ := keyLits_dig 3 a
  exact run_checkKey_deep em 9997 3 43 (by kernel_rfl) w 5 (digV a) la (by simp only [Value.formed, Tryz.underlying43, cells_dig]; simp [digC_length]) (by simpa [Value.cells] using hla)
 wide := by rw [Tryz.underlying43]
 same a := sameBits_self (n := 9999) fun u hu => by
  simp only [digC, bytesC, List.mem_map] at hu
  obtain ⟨b, _, rfl⟩ := hu
  simp [bc, Instr.sameBits]
end Go.Proofs.YtjbeooimhoilmaaGreatDoor
/- Nodes of a graph, as data and in memory; what is wrong with a list of them. No condition. -/
namespace Go.Pl
open Go.Fw
structure Nd where
 id : Dig
 ps : List Dig
def risB : List Dig → Bool
 | a :: b :: r => lessB a b && risB (b :: r)
 | _ => true
def wrongE (ahead : List Dig) (n : Nd) : Int := if 8 < n.ps.length then 4 else if risB n.ps = false then 7 else if n.id ∈ ahead then 6 else if ∃ p ∈ n.ps, p ∉ ahead then 5 else 0
def fwrong : List Nd → List Dig → Nat → Nat × Int
 | [], _, _ => (0, 0)
 | n :: r, ahead, i => if wrongE ahead n = 0 then fwrong r (ahead ++ [n.id]) (i + 1) else (i, wrongE ahead n)
def readE (l : List Nd) : Nat × Int := if 200 < l.length then (0, 4) else fwrong l [] 0
abbrev idsL (l : List Nd) : List Dig := l.map Nd.id
theorem risB_at : ∀ {l : List Dig}, (∀ i a b, l[i]? = some a → l[i + 1]? = some b → lessB a b = true) → risB l = true
 | [], _ => rfl
 | [_], _ => rfl
 | a :: b :: r, h => by
  rw [risB, h 0 a b rfl rfl, Bool.true_and]
  exact risB_at fun i x y hx hy => h (i + 1) x y (by simpa using hx) (by simpa using hy)
theorem risB_not : ∀ {l : List Dig} {i : Nat} {a b : Dig}, l[i]? = some a → l[i + 1]? = some b → lessB a b = false → risB l = false
 | [], _, _, _, h, _, _ => by simp at h
 | [_], i, _, _, _, h, _ => by simp at h
 | x :: y :: r, 0, a, b, h, k, hl => by
  simp at h k; subst h; subst k
  rw [risB, hl, Bool.false_and]
 | x :: y :: r, i + 1, a, b, h, k, hl => by
  rw [risB, risB_not (l := y :: r) (i := i) (by simpa using h) (by simpa using k) hl, Bool.and_false]
theorem wrong_ok {ahead : List Dig} {n : Nd} (h : wrongE ahead n = 0) : n.ps.length ≤ 8 ∧ risB n.ps = true ∧ n.id ∉ ahead ∧ ∀ p ∈ n.ps, p ∈ ahead := by
 unfold wrongE at h
 split at h
 ·
  omega
 split at h
 ·
  omega
 split at h
 ·
  omega
 split at h
 ·
  omega
 rename_i h1 h2 h3 h4
 refine ⟨by omega, by simpa using h2, h3, fun p hp => ?_⟩
 by_cases hm : p ∈ ahead
 ·
  exact hm
 ·
  exact absurd ⟨p, hp, hm⟩ h4
theorem fwrong_step {l : List Nd} {i : Nat} {n : Nd} (hi : l[i]? = some n) (h : wrongE (idsL (l.take i)) n = 0) : fwrong (l.drop i) (idsL (l.take i)) i = fwrong (l.drop (i + 1)) (idsL (l.take (i + 1))) (i + 1) := by
 have hlt := (List.getElem?_eq_some_iff.1 hi).1
 have hn := (List.getElem?_eq_some_iff.1 hi).2
 rw [List.drop_eq_getElem_cons hlt, hn, fwrong, if_pos h, take_succ hi]
 simp [idsL]
theorem fwrong_stop {l : List Nd} {i : Nat} {n : Nd} (hi : l[i]? = some n) (h : wrongE (idsL (l.take i)) n ≠ 0) : fwrong (l.drop i) (idsL (l.take i)) i = (i, wrongE (idsL (l.take i)) n) := by
 have hlt := (List.getElem?_eq_some_iff.1 hi).1
 have hn := (List.getElem?_eq_some_iff.1 hi).2
 rw [List.drop_eq_getElem_cons hlt, hn, fwrong, if_neg h]
abbrev placed (ids : List Dig) : List (Dig × Nat) := ids.zipIdx
def pme (e : Dig × Nat) : MapEntry := { key := digV e.1, val := .int .i64 (e.2 : Int), born := e.2 }
theorem placed_isSome {d : Dig} : ∀ {ids : List Dig} {k i : Nat}, (mfind Prod.fst d (ids.zipIdx k) i).isSome = decide (d ∈ ids)
 | [], _, _ => by simp [mfind]
 | x :: r, k, i => by
  rw [List.zipIdx_cons, mfind]
  by_cases h : x = d
  ·
   simp [h]
  ·
   have h' : ¬ d = x := fun e => h e.symm
   rw [if_neg h, placed_isSome (ids := r)]
   simp [h']
theorem placed_some {d : Dig} : ∀ {ids : List Dig} {k i j : Nat} {e : Dig × Nat}, mfind Prod.fst d (ids.zipIdx k) i = some (j, e) → e.1 = d ∧ ids[e.2 - k]? = some d ∧ k ≤ e.2 ∧ ∀ x, x < e.2 - k → ids[x]? ≠ some d
 | [], _, _, _, _, h => by simp [mfind] at h
 | x :: r, k, i, j, e, h => by
  rw [List.zipIdx_cons, mfind] at h
  split at h
  ·
   rename_i hx
   cases h
   refine ⟨hx, by simpa using hx, Nat.le_refl _, fun y hy => by simp at hy⟩
  ·
   rename_i hx
   obtain ⟨h1, h2, h3, h4⟩ := placed_some (ids := r) (k := k + 1) h
   have e1 : e.2 - k = (e.2 - (k + 1)) + 1 := by omega
   refine ⟨h1, by rw [e1, List.getElem?_cons_succ]; exact h2, by omega, fun y hy => ?_⟩
   cases y with
   | zero => simp only [List.getElem?_cons_zero]; intro he; cases he; exact hx rfl
   | succ y => rw [List.getElem?_cons_succ]; exact h4 y (by omega)
theorem placed_none {d : Dig} {ids : List Dig} (h : d ∉ ids) : mfind Prod.fst d (placed ids) 0 = none := by
 have := placed_isSome (d := d) (ids := ids) (k := 0) (i := 0)
 simpa [h] using this
theorem placed_app (ids : List Dig) (d : Dig) : placed (ids ++ [d]) = placed ids ++ [(d, ids.length)] := by simp [placed, List.zipIdx_append]
end Go.Pl
namespace Go.Fw
open Go.Pl
structure NdV where
 n : Nd
 A : Option Addr
 c : Nat
abbrev NdV.pv (x : NdV) : Value := .slice x.A x.n.ps.length x.c
def ndC (x : NdV) : List Value := digC x.n.id ++ [x.pv]
theorem ndC_length (x : NdV) : (ndC x).length = 33 := by simp [ndC, digC_length]
abbrev ndV (x : NdV) : Value := .agg (ndC x).toArray
theorem one_ndC {x : NdV} : ∀ u ∈ ndC x, u.oneCell' = true := by
 intro u hu
 simp only [ndC, List.mem_append, List.mem_singleton] at hu
 rcases hu with hu | rfl
 ·
  exact one_digC u hu
 ·
  rfl
theorem Y.subN {P : Program} {n : NN} {fr : Fr} {w : World} {ty : TypeId} {x y : Operand} {p q : Nat} {t t' : TypeId} (hx : ev fr x = some (.int .i64 (p : Int))) (hy : ev fr y = some (.int .i64 (q : Int))) (h : q ≤ p) (hb : p ≤ 9223372036854775807) :
  Yw P n fr (.binOp .sub t x y t') ty w (.int .i64 ((p - q : Nat) : Int)) w := by
 have := Y.sub (P := P) (n := n) (w := w) (ty := ty) (t := t) (t' := t') hx hy ⟨by omega, by omega⟩
 rwa [show (p : Int) - (q : Int) = ((p - q : Nat) : Int) by omega] at this
def NdV.zero : NdV := ⟨⟨Dig.zero, []⟩, none, 0⟩
section
variable {w : World} {a : Addr} {id : Dig} {ps : List Dig} {A : Option Addr} {c : Nat}
theorem Mem.node0 (h : Mem w a (ndC ⟨⟨id, ps⟩, A, c⟩)) : Mem w (a.add 0) (digC id) := h.sub 0 fun j v hj => by
 have hlt : j < (digC id).length := (List.getElem?_eq_some_iff.1 hj).1
 rw [Nat.zero_add, ndC, List.getElem?_append_left hlt]
 exact hj
theorem Mem.node1 (h : Mem w a (ndC ⟨⟨id, ps⟩, A, c⟩)) : w.cell? (a.add 32) = some (.slice A ps.length c) := h.cell 32 (by
 rw [ndC, List.getElem?_append_right (by rw [digC_length]; omega), digC_length]
 rfl)
end
structure Nds (w : World) (u : Value) (l : List NdV) : Prop where
 sl : Sl w ndC 33 u l
 ps : ∀ x ∈ l, Sl w digC 32 x.pv x.n.ps
theorem Nds.ext {w w' : World} {u : Value} {l : List NdV} (h : Nds w u l) (hc : Ext w w') : Nds w' u l := ⟨h.sl.ext hc, fun x hx => (h.ps x hx).ext hc⟩
abbrev ndsL (l : List NdV) : List Nd := l.map NdV.n
end Go.Fw
namespace Go.Proofs.YtjbeooimhoilmaaGreatDoor
open Go.RowKit Go.Fw Go.Pl
abbrev TNo : TypeId := 45
theorem sz0_apiNode : (Tryz.prog.info? TNo).map (·.size) = some 33 := by kernel_rfl
theorem sz_apiNode (x : NdV) : (Tryz.prog.info? TNo).map (·.size) = some (ndC x).length := by rw [ndC_length]; exact sz0_apiNode
theorem sz_sDig_ : (Tryz.prog.info? 24).map (·.size) = some 1 := by kernel_rfl
theorem fo_apiNode0 : FieldOff Tryz.prog TNo 0 0 := ⟨_, _, 32, Tryz.underlying45, rfl, sz_dig, by decide, rfl⟩
theorem fo_apiNode1 : FieldOff Tryz.prog TNo 1 32 := ⟨_, _, 1, Tryz.underlying45, rfl, sz_sDig_, by decide, rfl⟩
theorem info_apiNode : ∃ i : TypeInfo, Tryz.prog.info? TNo = some i ∧ i.zero = some (ndV NdV.zero) ∧ i.size = 33 := by
 have h : (Tryz.prog.info? TNo).map (fun i => (i.zero, i.size)) = some (some (ndV NdV.zero), 33) := by kernel_rfl
 cases hi : Tryz.prog.info? TNo with
 | none => simp [hi] at h
 | some i => simp [hi] at h; exact ⟨i, rfl, h.1, h.2⟩
theorem zero_int (w : World) : (zeroValue 3).run Tryz.prog w = .ok (.int .i64 0) w := by
 have h : (Tryz.prog.info? 3).map (fun i => i.zero) = some (some (.int .i64 0)) := by kernel_rfl
 cases hi : Tryz.prog.info? 3 with
 | none => simp [hi] at h
 | some i => simp [hi] at h; simp [zeroValue, typeInfo, hi, h]
end Go.Proofs.YtjbeooimhoilmaaGreatDoor
/- Own, walked. No condition. -/
namespace Go.Proofs.YtjbeooimhoilmaaGreatDoor
open Go.RowKit Go.Fw Go.Pl
theorem one_flat {α : Type} {enc : α → List Value} (h : ∀ x, ∀ u ∈ enc x, u.oneCell' = true) {xs : List α} : ∀ u ∈ (xs.map enc).flatten, u.oneCell' = true := by
 intro u hu
 obtain ⟨l, hl, hu⟩ := List.mem_flatten.1 hu
 obtain ⟨d, _, rfl⟩ := List.mem_map.1 hl
 exact h d u hu
end Go.Proofs.YtjbeooimhoilmaaGreatDoor
