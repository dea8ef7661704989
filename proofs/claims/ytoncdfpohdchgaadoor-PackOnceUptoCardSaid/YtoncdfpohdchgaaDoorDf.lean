/- Calls that are put off: from a frame without to a frame with one. No condition; no program. -/
import Derived.Test.YtoncdfpohdchgaaDoorPk
import Derived.Defers
import Derived.Recover
set_option linter.unusedSimpArgs false
set_option linter.unusedVariables false
namespace Go.Fw
open Go.RowKit
section
variable {P : Program} {n : NN} {fr : Fr} {w : World}
/-- A judgement of the calculus, as a 'wp' with whatever end. -/
theorem CW.wp {c : Code} {Φ : Exit → Fr → World → Prop} {Q : Exit → Act → World → Prop} {a : Act} (h : CW P c n Φ fr w) (ha : Rep n a fr) (hQ : ∀ e f a' w', Rep n a' f → Φ e f w' → Q e a' w') (hn0 : n.2.2 = none := by rfl) : c.wp P Q a w :=
  wp_mono ((CW.plain hn0).1 h a ha) fun e a' w' ⟨f, hf, hp⟩ => hQ e f a' w' hf hp
/-- 'defer f()' where f is a closure just made. -/
theorem wp_defer {id d : Nat} {f : Fn} {xs : List Operand} {vs : List Value} {ty ty' : TypeId} {pos pos' : String} {aft aft' : Array Edge} {tys : Array TypeId} {y : Code} {Q : Exit → Act → World → Prop} {a : Act}
    (ha : Rep n a fr) (hx : evs fr xs = some vs) (hd : d < n.1)
    (h : ∀ a', Rep (n.1, ⟨.fn f vs.toArray, #[]⟩ :: n.2.1, n.2.2) a' ((d, .func f #[] vs.toArray) :: fr) → y.wp P Q a' w) :
    (Code.seq (.region id [⟨some d, .makeFunc f #[] xs.toArray, ty, pos, aft, none⟩, ⟨none, .defer { callee := .value (.tmp d), args := #[], argTypes := tys }, ty', pos', aft', none⟩].toArray false) y).wp P Q a w := by
  refine wp_seq (wp_region_lit ?_)
  refine wpList_plain rfl fun K hK => ?_
  have h1 : (execOp a.eval ⟨some d, .makeFunc f #[] xs.toArray, ty, pos, aft, none⟩).run P w = .ok (.value (.func f #[] vs.toArray)) w := by
    have := ha.evs hx
    simp [execOp, Instr.makeFunc, this]
  unfold Oper.wp
  rw [h1]
  refine hK _ _ ?_
  have ha1 := ha.put hd (.func f #[] vs.toArray)
  refine wpList_plain rfl fun K2 hK2 => ?_
  have hg : (a.put (some d) (.func f #[] vs.toArray)).eval (.tmp d) = .func f #[] vs.toArray := ha1.ev (by simp [ev, Fr.get])
  have h2 : (execOp (a.put (some d) (.func f #[] vs.toArray)).eval ⟨none, .defer { callee := .value (.tmp d), args := #[], argTypes := tys }, ty', pos', aft', none⟩).run P w = .ok (.defer ⟨.fn f vs.toArray, #[]⟩) w := by
    simp [execOp, resolve, hg, Deferred.ofValue]
  unfold Oper.wp
  rw [h2]
  refine hK2 _ _ ?_
  refine wpList_nil ?_
  exact h _ ⟨by simpa [Act.put] using ha1.size, by simp [Act.put, ha.defers], fun t v hv => by simpa [Act.put] using ha1.get t v hv⟩
end
end Go.Fw
