/- Ranges over maps that the loop leaves alone, as rules of the calculus. No condition; no program. -/
import Derived.Test.YtoncdfpohdchgaaDoorMp
import Derived.Maps.RangeRun
set_option linter.unusedSimpArgs false
set_option linter.unusedVariables false
namespace Go.Fw
open Go.RowKit
/-- A range over the map at b is under way, its iterator at r: these have come, in this order. -/
structure Going {β : Type} (w : World) (r b : Nat) (me : β → MapEntry) (l : List β) (cl : Nat) (vs : List β) : Prop where
  map : MapAt w b me l cl
  iter : w.heap[r]? = some (.mapIter (some b) cl (vs.map fun e => (me e).born).toArray cl)
  old : ∀ e ∈ l, (me e).born < cl
  born : (l.map fun e => (me e).born).Nodup
  sub : ∀ e ∈ vs, e ∈ l
  once : vs.Nodup
section
variable {β : Type} {w w' : World} {r b : Nat} {me : β → MapEntry} {l : List β} {cl : Nat} {vs : List β} {S : Nat → Prop}
theorem Going.lt (h : Going w r b me l cl vs) : r < w.heap.size ∧ b < w.heap.size := ⟨(Array.getElem?_eq_some_iff.1 h.iter).1, h.map.lt⟩
theorem Going.ne (h : Going w r b me l cl vs) : r ≠ b := by
  rintro rfl
  have := h.iter.symm.trans h.map
  cases this
theorem Going.chg (h : Going w r b me l cl vs) (hc : Chg S w w') (hr : ¬ S r) (hb : ¬ S b) : Going w' r b me l cl vs :=
  ⟨h.map.chg hc hb, (hc.block r h.lt.1 hr).trans h.iter, h.old, h.born, h.sub, h.once⟩
theorem Going.ext (h : Going w r b me l cl vs) (hc : Ext w w') : Going w' r b me l cl vs := h.chg hc (fun f => f) (fun f => f)
theorem Going.inj (h : Going w r b me l cl vs) {x y : β} (hx : x ∈ l) (hy : y ∈ l) (he : (me x).born = (me y).born) : x = y := by
  obtain ⟨i, hi⟩ := List.mem_iff_getElem?.1 hx
  obtain ⟨j, hj⟩ := List.mem_iff_getElem?.1 hy
  have h1 : (l.map fun e => (me e).born)[i]? = some (me x).born := by simp [hi]
  have h2 : (l.map fun e => (me e).born)[j]? = some (me x).born := by simp [hj, he]
  have hlt := (List.getElem?_eq_some_iff.1 h1).1
  have e := (List.getElem?_inj hlt h.born).1 (h1.trans h2.symm)
  subst e
  exact Option.some.inj (hi.symm.trans hj)
theorem Going.nodup (h : Going w r b me l cl vs) : l.Nodup := by
  have := h.born
  rw [List.Nodup, List.pairwise_map] at this
  exact this.imp fun hne e => hne (by rw [e])
theorem Going.perm (h : Going w r b me l cl vs) (ha : ∀ e ∈ l, e ∈ vs) : vs.Perm l := (List.perm_ext_iff_of_nodup h.once h.nodup).2 fun e => ⟨h.sub e, ha e⟩
theorem Going.few (h : Going w r b me l cl vs) : vs.length ≤ l.length := by
  obtain ⟨l', hp, hs⟩ : ∃ l', vs.Perm l' ∧ l'.Sublist l := by
    refine ⟨l.filter (fun e => @decide (e ∈ vs) (Classical.propDecidable _)), (List.perm_ext_iff_of_nodup h.once (h.nodup.sublist List.filter_sublist)).2 fun e => ?_, List.filter_sublist⟩
    simp only [List.mem_filter, decide_eq_true_eq]
    exact ⟨fun x => ⟨h.sub e x, x⟩, fun x => x.2⟩
  rw [hp.length_eq]
  exact hs.length_le
variable {P : Program} {n : NN} {fr : Fr} {ty : TypeId}
theorem St.range {x : Operand} {t k e : TypeId} (hT : P.underlying t = some (.map k e)) (hx : ev fr x = some (.map (some b))) (hm : MapAt w b me l cl) (ho : ∀ e ∈ l, (me e).born < cl) (hn : (l.map fun e => (me e).born).Nodup) :
    St P n fr (.range t x) ty w (fun v w' => ∃ r, v = .pointer (some ⟨r, 0, none⟩) ∧ w.heap.size ≤ r ∧ Going w' r b me l cl [] ∧ Ext w w') := fun a o' hop hty ha => by
  refine ⟨_, _, ?_, w.heap.size, rfl, Nat.le_refl _, ⟨hm.ext (Chg.alloc _), heap_alloc_new w _, ho, hn, (fun e h => by simp at h), List.nodup_nil⟩, Chg.alloc _⟩
  simp only [execOp, hop, ha.ev hx, Sem.run_bind]
  rw [run_range_map w t k e b _ cl hT hm]
  rfl
/-- The next one: some one that has not come; or there is none. -/
theorem St.next {x : Operand} (hx : ev fr x = some (.pointer (some ⟨r, 0, none⟩))) (hg : Going w r b me l cl vs) :
    St P n fr (.next x false) ty w (fun v w' => ∃ bt rest, v = .tuple (.bool bt :: rest).toArray ∧ Chg (· = r) w w' ∧
      ((bt = true ∧ ∃ e, e ∈ l ∧ e ∉ vs ∧ Going w' r b me l cl (vs ++ [e])) ∨ (bt = false ∧ (∀ e ∈ l, e ∈ vs) ∧ Going w' r b me l cl vs))) := fun a o' hop hty ha => by
  have hold : ∀ y ∈ (l.map me).toArray.toList, y.born < cl := by
    intro y hy
    simp only [List.mem_map] at hy
    obtain ⟨e, he, rfl⟩ := hy
    exact hg.old e he
  rcases run_next_at (P := P) w o'.type r b cl cl _ _ cl hg.iter hg.map hold (Nat.le_refl _) with ⟨h0, hrun⟩ | ⟨e, he, w1, hw1, hrun⟩
  · refine ⟨_, w, ?_, false, [], rfl, Chg.refl, .inr ⟨rfl, fun e he => ?_, hg⟩⟩
    · simp only [execOp, hop, ha.ev hx, Sem.run_bind]
      rw [hrun]; rfl
    · have := all_seen _ _ h0 (me e) (by simp only [List.mem_map]; exact ⟨e, he, rfl⟩)
      simp only [List.contains_toArray, List.contains_eq_mem, List.mem_map, decide_eq_true_eq] at this
      obtain ⟨y, hy, hyb⟩ := this
      have := hg.inj (hg.sub y hy) he hyb
      exact this ▸ hy
  · obtain ⟨hem, hes⟩ := mem_left he
    simp only [List.mem_map] at hem
    obtain ⟨x0, hx0, rfl⟩ := hem
    have hnv : x0 ∉ vs := fun h => by
      simp only [List.contains_toArray, List.contains_eq_mem, List.mem_map, decide_eq_false_iff_not] at hes
      exact hes ⟨x0, h, rfl⟩
    have hx1 : Ext w w1 := by rcases hw1 with rfl | rfl; exact Chg.refl; exact Chg.drew
    have hz1 : r < w1.heap.size := Nat.lt_of_lt_of_le hg.lt.1 hx1.size
    refine ⟨.tuple #[.bool true, (me x0).key, (me x0).val], { w1 with heap := w1.heap.setIfInBounds r (.mapIter (some b) cl ((vs.map fun e => (me e).born).toArray.push (me x0).born) cl) }, ?_, true, [(me x0).key, (me x0).val], rfl, hx1.chg.trans (T := fun k => k = r) (chg_setBlock rfl) (fun _ _ h => h), .inl ⟨rfl, x0, hx0, hnv, ?_⟩⟩
    · simp only [execOp, hop, ha.ev hx, Sem.run_bind]
      rw [hrun]; rfl
    · refine ⟨(hg.map.ext hx1).chg (chg_setBlock (S := fun k => k = r) rfl) (fun h => hg.ne (Eq.symm h)), ?_, hg.old, hg.born, fun e he => ?_, ?_⟩
      · have := heap_setBlock (w := w1) (o := .mapIter (some b) cl ((vs.map fun e => (me e).born).toArray.push (me x0).born) cl) hz1
        rw [List.map_append, List.map_cons, List.map_nil, ← List.push_toArray]
        exact this
      · rcases List.mem_append.1 he with h | h
        · exact hg.sub e h
        · simp at h; subst h; exact hx0
      · rw [List.nodup_append]
        refine ⟨hg.once, by simp, fun a ha c hc => ?_⟩
        simp at hc; subst hc
        exact fun e => hnv (e ▸ ha)
theorem Y.entry {x : Operand} {e : β} (hx : ev fr x = some (.pointer (some ⟨r, 0, none⟩))) (hg : Going w r b me l cl (vs ++ [e])) : Yw P n fr (.entry x) ty w (.tuple #[(me e).key, (me e).val]) w := fun a o' hop _ ha => by
  have hit := hg.iter
  rw [List.map_append, List.map_cons, List.map_nil, ← List.push_toArray] at hit
  have := run_entry_at (P := P) w r b cl _ _ cl (me e) hit hg.map (by simp only [List.mem_map]; exact ⟨e, hg.sub e (by simp), rfl⟩) (by
    have := hg.born
    simpa [List.map_map, Function.comp_def] using this)
  simp only [execOp, hop, ha.ev hx, Sem.run_bind]
  rw [this]; rfl
theorem Y.extractT {x : Operand} {v : Value} {vs : List Value} (hx : ev fr x = some (.tuple (v :: vs).toArray)) : Yw P n fr (.extract x 0) ty w v w := Y.extract hx (by simp)
end
end Go.Fw
