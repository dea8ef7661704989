/- What a row of this seat lists ('digest.keys'), as the contracts want it; a world that meets it. No condition. -/
import Derived.Test.YtoncdfpohdchgaaDoorRows
import Derived.Test.YtoncdfpohdchgaaDoorM1
import Derived.Test.YtoncdfpohdchgaaDoorOb
import Derived.Test.YtoncdfpohdchgaaDoorCl
import Derived.Lib.LaidTab
import Derived.LaidHandle
import Derived.Stop.Joined
set_option linter.unusedSimpArgs false
set_option linter.unusedVariables false
namespace Go.Fw
open Go.RowKit Go.WideShapes Go.ChangeShapes Go.ChangeAt Go.Deep
section
variable {H : Type} {enc : TypeId × Value → H}
theorem law_lifted_and {C : Checked} {os : Os} {f : FuncId} {fn : Func} {s : ChangeSpec} {conds : List PathCond} {apart fresh handsOn again : Bool} {tb : TypeId} {X : World → Array Value → Prop}
    (hX : ∀ (w w' : World) (args : Array Value), w.heap = w'.heap → X w args → X w' args)
    (own : ownKnob C.prog.godebug = none) (started : os.Started) (noInit : C.prog.inits.idxOf? f = none) (hfn : C.prog.funcs[f]? = some fn)
    (witness : ∃ (w : World) (tape : Tape) (i : Input), w.os = os ∧ (w.forCall tape i).Shaped C.prog ∧ i.vars = [] ∧ Input.okWide C.prog (w.forCall tape i) .any w.heap.size f i ∧
      ((s.pre enc C.prog fn conds apart (w.forCall tape i).memory i.args ∧ X (w.forCall tape i).memory i.args) ∧ sizedMet enc C.prog fn (OpenSpec.ofChange s) apart (w.forCall tape i).memory i.args) ∧ ({} : Assume).holds C.prog (lone (Frame.enter C.prog f i.args .normal) [] (w.forCall tape i)))
    (hl : laidOutB C.prog = true) (hr : fn.params.toList.all (fun t => C.prog.readableRec t && decide (t < C.prog.types.size)) = true)
    (hres : fn.resultTypes = #[tb]) (hb : C.prog.underlying tb = some .bool) (hvars : s.vars = [])
    (hspec : ∀ ds : List (DataW H), ds.length = fn.params.toList.length → s.fn H ds = { results := [.lit (.bool true)], args := ds })
    (contract : ∀ (W : World) (base : Nat) (args : Array Value) (ds : List (DataW H)) (ps : List MemPlace),
      (∀ (j : Nat) t v, fn.params[j]? = some t → args[j]? = some v → Value.okWide C.prog W .any base t v) →
      DataW.TrodAll enc C.prog W 0 (fun _ => true) true fn.params.toList args.toList ds ps → (∀ p ∈ ps, p.block < W.heap.size) →
      (DataW.weightsEach C.prog fn.params.toList ds).all (· ≤ reachBytes) = true → W.noneFrozen ps → X W args →
      Calls C.prog f args W (Ret fun v W' => v = .bool true ∧ Ext W W')) :
    ReturnsInHanded {} C os f .any (fun w args => (s.pre enc C.prog fn conds apart w args ∧ X w args) ∧ sizedMet enc C.prog fn (OpenSpec.ofChange s) apart w args) (s.post enc C.prog fn apart fresh handsOn again) := by
  refine returnsInHanded_of_change_and hX own started noInit hfn witness ?_
  intro W base args ds gs before hval hW _ hsz hXW _
  have hW' := hW
  have hlt := hW.lt
  obtain ⟨p, q, hA, hV, rfl, hfz, _⟩ := hW
  rw [hvars] at hV
  have hv0 : s.plain.varTypes C.prog = [] := by simp [ChangeSpec.plain, DataSpec.varTypes, hvars]
  obtain ⟨rfl, rfl⟩ := trodVars_none hV
  rw [hv0] at hsz
  simp only [List.append_nil] at hsz hW' hlt hfz
  have hlen : ds.length = fn.params.toList.length := by
    have key : ∀ (ts : List TypeId) (vs : List Value) (ds : List (DataW H)) (ps : List MemPlace), DataW.TrodAll enc C.prog W 0 (fun _ => true) true ts vs ds ps → ds.length = ts.length := by
      intro ts
      induction ts with
      | nil => intro vs ds ps h; obtain ⟨_, rfl, _⟩ := trodAll_nil h; rfl
      | cons t ts ih => intro vs ds ps h; obtain ⟨_, _, _, _, _, _, _, rfl, _, _, h2⟩ := trodAll_cons h; simp [ih _ _ _ h2]
    exact key _ _ _ _ hA
  refine (contract W base args ds p hval hA (fun x hx => hlt x hx) hsz hfz hXW).mono fun e W' he => ?_
  cases e with
  | returned v =>
    obtain ⟨rfl, hx⟩ := he
    have hs := hspec ds hlen
    have hbel := hx.below
    have hrr : ∀ t ∈ fn.params.toList, C.prog.readableRec t = true ∧ t < C.prog.types.size := fun t ht => by
      have := List.all_eq_true.1 hr t ht
      simpa using this
    refine ⟨_, rfl, post_below (pa := p) (pv := []) hW' (fun b sp hd => ?_) (fun sp hsp => ?_) (fun sp _ => ?_) (by simp) hbel ?_⟩
    · rw [List.append_nil, hs, hres]; exact trodAll_mk1 (shut_bool hb _)
    · rw [List.append_nil, hs]; exact trodAll_below hl hbel hrr hA hlt hsp
    · rw [List.append_nil, hs, hvars]; rfl
    · intro j t r h1 h2
      rw [hres] at h1 h2
      cases j with
      | zero =>
        simp [Value.resultList] at h1 h2
        subst h1; subst h2
        exact okWide_bool_mk hb _
      | succ j => simp at h1
  | panicked ch => exact he.elim
  | outgrown => exact he.elim
/-- A table of integers that a row lists first is what the variable's block holds. -/
theorem mem_of_tab {P : Program} {W : World} {name : String} {k : IntKind} {zs : List Int} {g : Nat} (h : Lib.TabIs P W name k zs) (hg : P.globalNamed name = some g) : Mem W ⟨g, 0, none⟩ (zs.map fun z => Value.int k z) := fun j v hj => by
  have hjl : j < zs.length := by simpa using (List.getElem?_eq_some_iff.1 hj).1
  have e : (⟨g, 0, none⟩ : Addr).add j = ⟨g, j, none⟩ := by unfold Addr.add; split <;> simp_all
  rw [e, h.cell hg j hjl]
  have : zs[j]? = some (zs.getD j 0) := by simp [List.getD, hjl]
  rw [List.getElem?_map, this] at hj
  simpa using hj
end
end Go.Fw

namespace Go.Proofs.YtoncdfpohdchgaaDoor
open Go.RowKit Go.Fw Go.Pl
theorem keysT : (Tryd.prog.globals[0]?).map (·.type) = some 124 := by kernel_rfl
theorem keysNamed : Tryd.prog.globalNamed "recension/digest.keys" = some 0 := by kernel_rfl
theorem keys_cells32 : Tryd.prog.cellsOf 96 = 1 := by kernel_rfl
theorem keys_cellsK : Tryd.prog.cellsOf 124 = 64 := by kernel_rfl
theorem keys_laid : (Rows.laid_recension_digest_keys : DataW Unit) = Lib.tabData .u32 (keysL.map fun x => (x.toNat : Int)) := by kernel_rfl
abbrev laidL : List (String × DataW Unit) := [("recension/digest.keys", Rows.laid_recension_digest_keys)]
theorem keys_of_laid {W : World} (h : laidMetH Tryd.prog laidL W) : Mem W ⟨0, 0, none⟩ (wds keysL) := by
  have h' : laidMet Tryd.prog laidL W := h
  unfold laidL at h'
  rw [keys_laid] at h'
  have hT := Lib.tabIs_of_head keysNamed keysT Tryd.underlying124 Tryd.underlying96 keys_cells32 keys_cellsK h'
  have := mem_of_tab hT keysNamed
  rw [List.map_map] at this
  exact this
/-- The settled world, the table laid. -/
noncomputable def laidWorld (os : Os) : World :=
  let w0 := World.holding Tryd.prog os ⟨#[], #[], []⟩
  { w0 with heap := w0.heap.modify 0 fun
      | .cells _ t frozen => .cells (wds keysL).toArray t frozen
      | o => o }
theorem laidWorld_met (os : Os) (args : Array Value) : laidMetH Tryd.prog laidL ((laidWorld os).forCall (fun _ _ => 0) ⟨#[], args, []⟩).memory :=
  laidMet_of_run' 8 (by kernel_rfl) (by kernel_rfl)
end Go.Proofs.YtoncdfpohdchgaaDoor
