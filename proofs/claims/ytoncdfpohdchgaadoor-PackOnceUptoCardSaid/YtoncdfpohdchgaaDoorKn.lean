/- Rules: a slot whose value is known; a slice out of a constant text. No condition; no program. -/
-- @alt f{recension/commit.May}: Dc -> Pk Pl
import Derived.Test.YtoncdfpohdchgaaDoorDc
import Derived.Great.BuildSlice
import Derived.Lib.SlBytesConst
set_option linter.unusedSimpArgs false
set_option linter.unusedVariables false
namespace Go.Fw
open Go.RowKit
section
variable {P : Program} {n : NN} {Φ : Exit → Fr → World → Prop} {fr : Fr} {w : World} {ops : Array Oper} {C S : World → Prop} {Ψ : Fr → Prop}
theorem WL.know {l : List Oper} {d : Nat} {v u : Value} (hg : fr.get d = some v) (h : v = u) (k : WL P ops n Φ l ((d, u) :: fr) w) : WL P ops n Φ l fr w := fun a ha => k a (ha.weaken (Fr.le.cons (by rw [hg, h]) Fr.le.refl))
theorem QL.know {l : List Oper} {d : Nat} {v u : Value} (hg : fr.get d = some v) (h : v = u) (k : QL P ops C n Ψ l ((d, u) :: fr)) : QL P ops C n Ψ l fr := fun a ha => k a (ha.weaken (Fr.le.cons (by rw [hg, h]) Fr.le.refl))
theorem RH.know {fuel : Nat} {listed : Array Bool} {d : Nat} {v u : Value} (hg : fr.get d = some v) (h : v = u) (k : RH P ops S n Φ fuel listed ((d, u) :: fr) w) : RH P ops S n Φ fuel listed fr w := fun a ha => k a (ha.weaken (Fr.le.cons (by rw [hg, h]) Fr.le.refl))
theorem CW.know {c : Code} {d : Nat} {v u : Value} (hg : fr.get d = some v) (h : v = u) (k : CW P c n Φ ((d, u) :: fr) w) : CW P c n Φ fr w := fun a ha => k a (ha.weaken (Fr.le.cons (by rw [hg, h]) Fr.le.refl))
/-- '[]byte("..")' of a constant text. -/
theorem WL.bytesConst {rest : List Oper} {d d' : Nat} {t e : TypeId} {len : Nat} {ps : List (Nat × Operand)} {vs : List (Nat × Value)} {cs : List Value} {ty ty' : TypeId} {pos pos' : String} {aft aft' : Array Edge}
    (hp : evp fr ps = some vs) (hr : ∀ w, (Instr.buildSlice t len vs.toArray).run P w = .ok (.slice (some ⟨w.heap.size, 0, none⟩) len len) (w.alloc (.cells cs.toArray e)))
    (ht : P.underlying t = some (.slice e)) (he : P.underlying e = some (.int .u8)) (hl : cs.length = len) (hm : len ≤ maxLen) (hd : d < n.1) (hd' : d' < n.1)
    (h : ∀ g w', Ext w w' → w.heap.size ≤ g → Own w' e 1 (.slice (some ⟨g, 0, none⟩) len len) cs → WL P ops n Φ rest ((d', .slice (some ⟨g, 0, none⟩) len len) :: (d, .slice (some ⟨g, 0, none⟩) len len) :: fr) w') :
    WL P ops n Φ (⟨some d, .buildSlice t len ps.toArray, ty, pos, aft, none⟩ :: ⟨some d', .convert t t (.tmp d), ty', pos', aft', none⟩ :: rest) fr w := fun a ha =>
  wpList_plain rfl fun K hK => by
    have h1 : (execOp a.eval ⟨some d, .buildSlice t len ps.toArray, ty, pos, aft, none⟩).run P w = .ok (.value (.slice (some ⟨w.heap.size, 0, none⟩) len len)) (w.alloc (.cells cs.toArray e)) := by
      have h2 := hr w
      rw [← ha.evp hp] at h2
      simp only [execOp, List.map_toArray, Sem.run_bind]
      rw [h2]; rfl
    unfold Oper.wp
    rw [h1]
    refine hK _ _ ?_
    have ha1 := ha.put hd (.slice (some ⟨w.heap.size, 0, none⟩) len len)
    refine wpList_plain rfl fun K2 hK2 => ?_
    have hg : (a.put (some d) (.slice (some ⟨w.heap.size, 0, none⟩) len len)).eval (.tmp d) = .slice (some ⟨w.heap.size, 0, none⟩) len len := ha1.ev (by simp [ev, Fr.get])
    have h2 : (execOp (a.put (some d) (.slice (some ⟨w.heap.size, 0, none⟩) len len)).eval ⟨some d', .convert t t (.tmp d), ty', pos', aft', none⟩).run P (w.alloc (.cells cs.toArray e)) = .ok (.value (.slice (some ⟨w.heap.size, 0, none⟩) len len)) (w.alloc (.cells cs.toArray e (cs.toArray.size, cs.toArray.size + 1))) := by
      have h3 := Lib.run_convert_bytes_const (P := P) w t e cs.toArray len len ht he
      simp only [execOp, hg, Sem.run_bind]
      rw [h3]; rfl
    unfold Oper.wp
    rw [h2]
    refine hK2 _ _ ?_
    refine h w.heap.size _ (Chg.alloc _) (Nat.le_refl _) (.inr ⟨w.heap.size, len, len, [], (cs.length, cs.length + 1), rfl, ?_, by omega, Nat.le_refl _, hm, by simp [hl], fun o ho => by omega⟩) _ (ha1.put hd' _)
    have := heap_alloc_new w (.cells cs.toArray e (cs.toArray.size, cs.toArray.size + 1))
    simpa using this
theorem flat_cells1 : ∀ {l : List Value}, (∀ u ∈ l, u.oneCell' = true) → l.flatMap (fun v => v.cells.toList) = l
  | [], _ => rfl
  | x :: r, h => by
    have h1 : x.cells = #[x] := by
      have := h x (by simp)
      cases x <;> first | rfl | simp [Value.oneCell'] at this
    simp only [List.flatMap_cons, h1, flat_cells1 (l := r) fun u hu => h u (by simp [hu])]
    rfl
theorem run_bsN {t e : TypeId} {b : Nat} (hu : P.underlying t = some (.slice e)) (hi : AppInfo P e 1 b) (l : List UInt8) (h0 : 0 < l.length) (hs : l.length ≤ 16777216) (w : World) :
    (Instr.buildSlice t l.length (((bytesC l).zipIdx 0).map fun x => (x.2, x.1)).toArray).run P w = .ok (.slice (some ⟨w.heap.size, 0, none⟩) l.length l.length) (w.alloc (.cells (bytesC l).toArray e)) := by
  obtain ⟨i, z, hi, hz, hk, hzs, hb, h1, h2⟩ := hi
  refine run_buildSlice w t e l.length _ _ i z hu hi hz (by rw [hk]; omega) (by rw [hk]; omega) ?_
  rw [hk]
  have h := Go.Great.fill_whole (s := 1) (by decide) (bytesC l) ((Array.range (l.length * 1)).map (z.cells[· % z.cells.size]!)) (by intro u hu; simp only [bytesC, List.mem_map] at hu; obtain ⟨x, _, rfl⟩ := hu; rfl) (by simp [bytesC])
  rw [flat_cells1 one_bytesC] at h
  exact h
end
end Go.Fw
namespace Go.Proofs.YtoncdfpohdchgaaDoor
open Go.RowKit Go.Fw Go.Pl
theorem as_apiCommit {n : NN} {Φ : Exit → Fr → World → Prop} {fr : Fr} {w : World} {ops : Array Oper} {rest : List Oper} {d : Nat} {x : Operand} {ty ty' : TypeId} {pos pos' : String} {aft aft' : Array Edge} {A B : Option Addr} {m c m' c' : Nat} {au no : ByteArray}
    (hx : ev fr x = some (.agg (comC (.slice A m c) au no (.slice B m' c')).toArray)) (hxd : x ≠ .tmp d) (hd : d < n.1)
    (h : ∀ g w', Ext w w' → w.heap.size ≤ g → Blk w' g 76 (comC (.slice A m c) au no (.slice B m' c')) → WL Tryd.prog ops n Φ rest ((d, .pointer (some ⟨g, 0, none⟩)) :: fr) w') :
    WL Tryd.prog ops n Φ (⟨some d, .alloc 76, ty, pos, aft, none⟩ :: ⟨none, .store 76 (.tmp d) x, ty', pos', aft', none⟩ :: rest) fr w := by
  obtain ⟨i, hi, hz⟩ := info_com
  exact WL.allocStore (zs := comZ) (cs := comC (.slice A m c) au no (.slice B m' c')) hi hz rfl (by have := sz_com; rw [hi] at this; simp at this; rw [this]; rfl) rfl hx hxd rfl one_com hd h
end Go.Proofs.YtoncdfpohdchgaaDoor
