/- Strings put together; the bytes of a string as a new slice. No condition. -/
import Derived.Test.YtoncdfpohdchgaaDoorOw
import Derived.Laws.IdiomStrings
set_option linter.unusedSimpArgs false
set_option linter.unusedVariables false
namespace Go.Fw
open Go.RowKit
section
variable {P : Program} {n : NN} {fr : Fr} {w : World} {ty : TypeId}
theorem Y.addS {x y : Operand} {p q : ByteArray} {t t' : TypeId} (hx : ev fr x = some (.string p)) (hy : ev fr y = some (.string q)) (h : p.size + q.size ≤ 9223372036854775807) :
    Yw P n fr (.binOp .add t x y t') ty w (.string (p ++ q)) w := Y.bin hx hy (by simp [eqGuard_at_string]) (by
      have : ¬ (((p.size + q.size : Nat) : Int) > IntKind.i64.max) := by simp only [IntKind.max, IntKind.bits, IntKind.signed]; simp; omega
      simp only [binOp, Op.stringOp, this]
      rfl)
theorem St.strBytes {x : Operand} {s d e : TypeId} {str : ByteArray} (hs : P.underlying s = some .string) (hd : P.underlying d = some (.slice e)) (he : P.underlying e = some (.int .u8)) (hx : ev fr x = some (.string str)) (hr : str.size ≤ 140737488351232) :
    St P n fr (.convert s d x) ty w (fun v w' => Own w' e 1 v (bytesC str.toList) ∧ Ext w w' ∧ ∀ g, v.ownBlock = some g → w.heap.size ≤ g) := fun a o' ho hty ha => by
  have h1 := run_bytes_of_string (P := P) w s d e str hs hd he
  refine ⟨_, _, by simp only [execOp, ho, ha.ev hx]; rw [Sem.run_bind, h1]; rfl, ?_, ?_, ?_⟩
  · have hge := grownCap_ge w str.size 0 e
    have hle : grownCap w str.size 0 e ≤ maxLen := grownCap_le_maxLen w str.size 0 e (by simp only [maxLen]; omega)
    have hl := toList_length str
    have hc : (bytesC str.toList).length = str.size := by rw [bytesC_length, hl]
    have hrow : bytesRow str (grownCap w str.size 0 e) = (bytesC str.toList ++ List.replicate (grownCap w str.size 0 e - str.size) (Value.int .u8 0)).toArray := by
      apply Array.ext'
      simp [bytesRow, bytesC, ByteArray.toList_eq]
      exact fun _ _ => rfl
    refine .inr ⟨w.heap.size, str.size, grownCap w str.size 0 e, List.replicate (grownCap w str.size 0 e - str.size) (.int .u8 0), ((bytesRow str (grownCap w str.size 0 e)).size, (bytesRow str (grownCap w str.size 0 e)).size + 1), rfl, ?_, by omega, hge, hle, by simp [hc]; omega, ?_⟩
    · rw [← hrow]; exact heap_alloc_new _ _
    · intro o ho' h
      simp only [bytesRow, Array.size_append, Array.size_map, Array.size_replicate] at h
      have : str.data.size = str.size := rfl
      omega
  · exact Chg.drew.trans (Chg.alloc (S := fun _ => False) _) (fun _ _ f => f.elim)
  · intro g hg
    simp [Value.ownBlock] at hg
    omega
end
theorem bs_append (a b : List UInt8) : bs a ++ bs b = bs (a ++ b) := by
  apply ByteArray.ext
  simp [bs]
theorem bs_eq {a : ByteArray} {l : List UInt8} (h : a.toList = l) : a = bs l := by rw [← h, bs_of]
end Go.Fw
namespace Go.Fw
open Go.RowKit
section
variable {P : Program} {ops : Array Oper} {S : World → Prop} {n : NN} {Φ : Exit → Fr → World → Prop} {fr : Fr} {w : World} {fuel : Nat} {listed : Array Bool}
theorem RS.stG {i d : Nat} {o : Op} {ty : TypeId} {pos : String} {aft : Array Edge} {R : Value → World → Prop} {g : Option (Nat × Bool)}
    (hi : ops[i]? = some ⟨some d, o, ty, pos, aft, g⟩) (hg : ∀ j b, g = some (j, b) → ∃ dj, (ops[j]?).bind (·.dst) = some dj ∧ fr.get dj = some (.bool b)) (hs : St P n fr o ty w R) (hd : d < n.1)
    (h : ∀ v w', R v w' → S w' ∧ RH P ops S n Φ fuel (listed.setIfInBounds i true) ((d, v) :: fr) w') : RS P ops S n Φ fuel listed i fr w := fun a ha => by
  obtain ⟨v, w', hr, hR⟩ := hs a ⟨some d, o, ty, pos, aft, g⟩ rfl rfl ha
  obtain ⟨h1, h2⟩ := h v w' hR
  have hw : Region.wanted ⟨some d, o, ty, pos, aft, g⟩ (yielded ops a.tmps) = true := by
    cases g with
    | none => simp [Region.wanted]
    | some jb =>
      obtain ⟨j, b⟩ := jb
      obtain ⟨dj, h1, h2⟩ := hg j b rfl
      simp [Region.wanted, yielded_eq ha h1 h2]
  unfold wpOp
  rw [hi]
  simp only [hw, if_true]
  refine .inl ?_
  unfold Oper.wp
  rw [hr]
  exact ⟨h1, h2 _ (ha.put hd v)⟩
/-- A constant text as bytes: its block is marked behind its end. -/
theorem St.convBytes {ty : TypeId} {x : Operand} {t e : TypeId} {g m : Nat} {cs : List Value} (ht : P.underlying t = some (.slice e)) (he : P.underlying e = some (.int .u8)) (hx : ev fr x = some (.slice (some ⟨g, 0, none⟩) m m)) (hB : Blk w g e cs) (hl : cs.length = m) (hm : m ≤ maxLen) :
    St P n fr (.convert t t x) ty w (fun v w' => v = .slice (some ⟨g, 0, none⟩) m m ∧ Own w' e 1 v cs ∧ Chg (· = g) w w') := fun a o' ho hty ha => by
  have hsh : w.shape? g = some (e, cs.length) := by unfold World.shape?; rw [show w.heap[g]? = _ from hB]; simp
  have hfr : w.freeze ⟨g, cs.length, none⟩ 1 = { w with heap := w.heap.setIfInBounds g (.cells cs.toArray e (cs.length, cs.length + 1)) } := by
    unfold World.freeze
    rw [if_neg (by decide)]
    congr 1
    apply Array.ext'
    apply List.ext_getElem?
    intro i
    have hg := (Array.getElem?_eq_some_iff.1 (show w.heap[g]? = _ from hB))
    by_cases hi : g = i
    · subst hi
      obtain ⟨h1, h2⟩ := hg
      simp [Array.getElem?_modify, h1, h2]
    · simp [Array.getElem?_modify, hi, Array.getElem?_setIfInBounds, List.getElem?_set]
  refine ⟨.slice (some ⟨g, 0, none⟩) m m, { w with heap := w.heap.setIfInBounds g (.cells cs.toArray e (cs.length, cs.length + 1)) }, ?_, rfl, .inr ⟨g, m, m, [], (cs.length, cs.length + 1), rfl, ?_, by omega, Nat.le_refl _, hm, by simp [hl], fun o h => by omega⟩, ⟨rfl, rfl, rfl, by simp, fun k hk hn => ?_, Nat.le_refl _⟩⟩
  · rw [← hfr]
    simp [execOp, ho, ha.ev hx, convert, run_underlying ht, run_underlying he, markStringish, hsh]
  · simp [Array.getElem?_setIfInBounds, hB.lt]
  · have : g ≠ k := fun h => hn h.symm
    simp [Array.getElem?_setIfInBounds, this]
end
end Go.Fw
