/- Parts of a proof: what its last text leans on. No condition. -/
import Derived.Laws.IdiomStrings
import Derived.Test.YtmehkigmnpjcjaaDoorK03
import Derived.Test.YtmehkigmnpjcjaaDoorK17
import Derived.Test.YtmehkigmnpjcjaaDoorK22
set_option linter.unusedSimpArgs false
set_option linter.unusedVariables false
/- A tree is copied: what holds while that is under way. No condition. -/
namespace Go.Fw
open Go.RowKit
theorem RS.callV {P : Program} {ops : Array Oper} {S : World → Prop} {n : NN} {Φ : Exit → Fr → World → Prop} {fr : Fr} {w : World} {fuel : Nat} {listed : Array Bool} {i d t : Nat} {f : FuncId} {args : List Operand} {tys : Array TypeId} {ty : TypeId} {pos : String} {aft : Array Edge} {vs cap : List Value} {fn : Func} {R : Value → World → Prop}
  (hi : ops[i]? = some ⟨some d, .call { callee := .value (.tmp t), args := args.toArray, argTypes := tys }, ty, pos, aft, none⟩) (ht : fr.get t = some (.func (.func f) #[] cap.toArray))
  (hf : P.funcs[f]? = some fn) (hb : fn.body.isNone = false) (hn : (fn.name == "runtime.NumGoroutine") = false)
  (he : evs fr args = some vs) (hC : Calls P f (vs ++ cap).toArray w (Ret R)) (hd : d < n.1)
  (h : ∀ v w', R v w' → S w' ∧ RH P ops S n Φ fuel (listed.setIfInBounds i true) ((d, v) :: fr) w') : RS P ops S n Φ fuel listed i fr w := fun a ha => by
 have hrun : (execOp a.eval ⟨some d, .call { callee := .value (.tmp t), args := args.toArray, argTypes := tys }, ty, pos, aft, none⟩).run P w = .ok (.enter f (vs ++ cap).toArray) w := by
  have h1 := ha.evs he
  have h2 : a.eval (.tmp t) = .func (.func f) #[] cap.toArray := ha.ev (x := .tmp t) ht
  simp [execOp, resolve, invoke, Deferred.ofValue, h2, h1, run_callFunc hf hb hn]
 unfold wpOp
 rw [hi]
 simp only [Region.wanted, if_true]
 refine .inl ?_
 unfold Oper.wp
 rw [hrun]
 refine hC.mono fun e w' hr => ?_
 cases e with
 | returned v => obtain ⟨h1, h2⟩ := h v w' hr; exact ⟨h1, h2 _ (ha.put hd v)⟩
 | panicked ch => exact hr.elim
 | outgrown => exact hr.elim
end Go.Fw
namespace Go.Proofs.YtmehkigmnpjcjaaDoor
open Go.RowKit Go.Fw Go.Fu Go.Pl
theorem walk_sub {e : List El} (h : Down e) : ∀ i, i < e.length → ∀ j ∈ walkE e i, (walkE e j).Sublist (walkE e i) :=
 down_ind h fun i x hx ih j hj => by
  have hd := h i x hx
  have hw := walkE_eq h hx
  have fl : ∀ (l : List Nat) (c : Nat), c ∈ l → (walkE e c).Sublist (l.flatMap (walkE e)) := fun l c hc => by
   induction l with
   | nil => cases hc
   | cons a r ihl =>
    rw [List.flatMap_cons]
    rcases List.mem_cons.1 hc with rfl | hc
    ·
     exact List.sublist_append_left _ _
    ·
     exact (ihl hc).trans (List.sublist_append_right _ _)
  have hj' := hj
  rw [hw, List.mem_append, List.mem_cons, List.mem_flatMap, List.mem_flatMap] at hj'
  rcases hj' with ⟨c, hc, hj⟩ | rfl | ⟨c, hc, hj⟩
  ·
   rw [hw]
   exact ((ih c (.inl hc) (hd c (.inl hc)).2 j hj).trans (fl _ c hc)).trans (List.sublist_append_left _ _)
  ·
   exact List.Sublist.refl _
  ·
   rw [hw]
   exact (((ih c (.inr hc) (hd c (.inr hc)).2 j hj).trans (fl _ c hc)).trans (List.sublist_cons_self _ _)).trans (List.sublist_append_right _ _)
theorem walk_nodup {e : List El} (hG : Fu.Good e) (i : Nat) (hi : i < e.length) : (walkE e i).Nodup := List.Nodup.sublist (walk_sub hG.down 0 hG.pos i (hG.mem.2 hi)) hG.nodup
abbrev TPF : TypeId := 54
abbrev TCf : TypeId := 129
def gD (D : List (Nat × Nn)) (c : Nat) : Nat := ((D.find? fun p => decide (p.1 = c)).map fun p => p.2.g).getD 0
theorem gD_app {D X : List (Nat × Nn)} {c : Nat} (h : ∃ p ∈ D, p.1 = c) : gD (D ++ X) c = gD D c := by
 have hs : (D.find? fun p => decide (p.1 = c)).isSome = true := by
  obtain ⟨p, hp, hc⟩ := h
  exact List.find?_isSome.2 ⟨p, hp, decide_eq_true hc⟩
 obtain ⟨q, hq⟩ := Option.isSome_iff_exists.1 hs
 rw [gD, gD, List.find?_append, hq]; rfl
theorem gD_mem {D : List (Nat × Nn)} (hn : (D.map (·.1)).Nodup) {p : Nat × Nn} (hp : p ∈ D) : gD D p.1 = p.2.g := by
 induction D with
 | nil => cases hp
 | cons q r ih =>
  have hn' := List.nodup_cons.1 hn
  unfold gD
  rw [List.find?_cons]
  by_cases h : q.1 = p.1
  ·
   rcases List.mem_cons.1 hp with rfl | hp
   ·
    simp
   ·
    exact absurd (List.mem_map.2 ⟨p, hp, h.symm⟩) hn'.1
  ·
   rw [decide_eq_false h]
   rcases List.mem_cons.1 hp with rfl | hp
   ·
    exact absurd rfl h
   ·
    exact ih hn'.2 hp
def entD (D : List (Nat × Nn)) : List BE := ((D.filter fun p => decide (p.1 ≠ 0)).zipIdx).map fun q => ⟨q.1.2.el.name, q.1.2.g, q.2⟩
theorem entD_length {D : List (Nat × Nn)} : (entD D).length = (D.filter fun p => decide (p.1 ≠ 0)).length := by simp [entD]
theorem entD_root {D : List (Nat × Nn)} {y : Nn} : entD (D ++ [(0, y)]) = entD D := by simp [entD]
theorem entD_one {D : List (Nat × Nn)} {i : Nat} {y : Nn} (h : i ≠ 0) : entD (D ++ [(i, y)]) = entD D ++ [⟨y.el.name, y.g, (entD D).length⟩] := by
 rw [entD_length]; simp [entD, h, List.zipIdx_append]
theorem entD_mem {D : List (Nat × Nn)} {e : BE} (h : e ∈ entD D) : ∃ p ∈ D, p.1 ≠ 0 ∧ p.2.el.name = e.k ∧ p.2.g = e.g := by
 obtain ⟨q, hq, rfl⟩ := List.mem_map.1 h
 have := (List.mem_zipIdx hq).2.2
 have hm : q.1 ∈ D.filter fun p => decide (p.1 ≠ 0) := by rw [this]; exact List.getElem_mem _
 obtain ⟨h1, h2⟩ := List.mem_filter.1 hm
 exact ⟨q.1, h1, by simpa using h2, rfl, rfl⟩
theorem entD_has {D : List (Nat × Nn)} {p : Nat × Nn} (hp : p ∈ D) (h0 : p.1 ≠ 0) : ∃ e ∈ entD D, e.k = p.2.el.name := by
 have hm : p ∈ D.filter fun p => decide (p.1 ≠ 0) := List.mem_filter.2 ⟨hp, by simpa using h0⟩
 obtain ⟨i, hi⟩ := List.mem_iff_getElem?.1 hm
 exact ⟨⟨p.2.el.name, p.2.g, i⟩, List.mem_map.2 ⟨(p, i), List.mem_of_getElem? (i := i) (by rw [List.getElem?_zipIdx, hi]; simp), rfl⟩, rfl⟩
theorem entD_born {D : List (Nat × Nn)} : (entD D).map BE.born = List.range (entD D).length := by
 have : ∀ (l : List (Nat × Nn)) (k : Nat), ((l.zipIdx k).map fun q : (Nat × Nn) × Nat => (⟨q.1.2.el.name, q.1.2.g, q.2⟩ : BE)).map BE.born = List.range' k l.length := by
  intro l
  induction l with
  | nil => intro k; rfl
  | cons a r ih => intro k; rw [List.zipIdx_cons, List.map_cons, List.map_cons, ih, List.length_cons, List.range'_succ]
 rw [entD_length, List.range_eq_range']
 exact this _ 0
structure CpAt (w0 w : World) (ns : List Nn) (g gf gt gc g2 rb2 gr ra2 n2 : Nat) (D : List (Nat × Nn)) : Prop where
 ext : Ext w0 w
 from_ : Blk w gf TCf [.func (.func 52) #[] #[.pointer (some ⟨gf, 0, none⟩), .pointer (some ⟨gt, 0, none⟩), .pointer (some ⟨gc, 0, none⟩)]]
 tbox : Blk w gt TPF [.pointer (some ⟨g, 0, none⟩)]
 cbox : Blk w gc TPF [.pointer (some ⟨g2, 0, none⟩)]
 tree : Blk w g2 TF (treeC gr rb2 ra2 n2)
 map : MapAt w rb2 BE.me (entD D) (entD D).length
 node : ∀ p ∈ D, ∃ z, ns[p.1]? = some z ∧ p.2.el = z.el ∧ Blk w p.2.g TN (nodeC p.2.el p.2.lv p.2.rv)
 kids : ∀ p ∈ D, ∀ s, Own w TP 1 (p.2.sv s) (ptrL ((side p.2.el s).map (gD D)))
 has : ∀ p ∈ D, ∀ c, c ∈ p.2.el.left ∨ c ∈ p.2.el.right → ∃ q ∈ D, q.1 = c
 nodup : (D.map (·.1)).Nodup
 inj : ∀ p ∈ D, ∀ q ∈ D, p.2.g = q.2.g → p.1 = q.1
 sep : ∀ p ∈ D, ∀ q ∈ D, ∀ (s t : Bool) (k : Nat), (p.2.sv s).ownBlock = some k → (q.2.sv t).ownBlock = some k → p.1 = q.1 ∧ s = t
 low : w0.heap.size ≤ rb2
 new : ∀ p ∈ D, w0.heap.size ≤ p.2.g ∧ ∀ (s : Bool) (k : Nat), (p.2.sv s).ownBlock = some k → w0.heap.size ≤ k
section
variable {w0 w w' : World} {ns : List Nn} {g gf gt gc g2 rb2 gr ra2 n2 : Nat} {D : List (Nat × Nn)} {S : Nat → Prop}
theorem blk_kind {k : Nat} {c1 c2 : Array Value} {t1 t2 : TypeId} {f1 f2 : Nat × Nat} (h1 : w.heap[k]? = some (.cells c1 t1 f1)) (h2 : w.heap[k]? = some (.cells c2 t2 f2)) : t1 = t2 := by
 rw [h1] at h2; injection h2 with h2; injection h2
theorem blk_map {k : Nat} {c1 : Array Value} {t1 : TypeId} {f1 : Nat × Nat} {β : Type} {me : β → MapEntry} {l : List β} {cl : Nat} (h1 : w.heap[k]? = some (.cells c1 t1 f1)) (h2 : MapAt w k me l cl) : False := by
 unfold MapAt at h2; rw [h1] at h2; cases h2
theorem CpAt.chg (h : CpAt w0 w ns g gf gt gc g2 rb2 gr ra2 n2 D) (hc : Chg S w w') (hS : ∀ k, S k → w0.heap.size ≤ k) (hs : ∀ k, S k → (∀ p ∈ D, p.2.g ≠ k ∧ ∀ s, (p.2.sv s).ownBlock ≠ some k) ∧ k ≠ gf ∧ k ≠ gt ∧ k ≠ gc ∧ k ≠ g2 ∧ k ≠ rb2) : CpAt w0 w' ns g gf gt gc g2 rb2 gr ra2 n2 D where
 ext := h.ext.step hc hS
 from_ := h.from_.chg hc fun hk => (hs _ hk).2.1 rfl
 tbox := h.tbox.chg hc fun hk => (hs _ hk).2.2.1 rfl
 cbox := h.cbox.chg hc fun hk => (hs _ hk).2.2.2.1 rfl
 tree := h.tree.chg hc fun hk => (hs _ hk).2.2.2.2.1 rfl
 map := h.map.chg hc fun hk => (hs _ hk).2.2.2.2.2 rfl
 node p hp := by obtain ⟨z, h1, h2, h3⟩ := h.node p hp; exact ⟨z, h1, h2, h3.chg hc fun hk => ((hs _ hk).1 p hp).1 rfl⟩
 kids p hp s := (h.kids p hp s).chg hc fun k hk hSk => ((hs _ hSk).1 p hp).2 s hk
 has := h.has
 nodup := h.nodup
 inj := h.inj
 sep := h.sep
 low := h.low
 new := h.new
theorem CpAt.then (h : CpAt w0 w ns g gf gt gc g2 rb2 gr ra2 n2 D) (hx : Ext w w') : CpAt w0 w' ns g gf gt gc g2 rb2 gr ra2 n2 D := h.chg hx (fun _ f => f.elim) (fun _ f => f.elim)
theorem CpAt.node_ok (h : CpAt w0 w ns g gf gt gc g2 rb2 gr ra2 n2 D) {k : Nat} {cs : List Value} (hb : Blk w k TN cs) (hn : ∀ p ∈ D, p.2.g ≠ k) : (∀ p ∈ D, p.2.g ≠ k ∧ ∀ s, (p.2.sv s).ownBlock ≠ some k) ∧ k ≠ gf ∧ k ≠ gt ∧ k ≠ gc ∧ k ≠ g2 ∧ k ≠ rb2 := by
 refine ⟨fun p hp => ⟨hn p hp, fun s hk => ?_⟩, ?_, ?_, ?_, ?_, ?_⟩
 ·
  obtain ⟨_, _, h1⟩ := (h.kids p hp s).kind hk
  exact absurd (blk_kind h1 hb) de_
 ·
  rintro rfl; exact absurd (blk_kind hb h.from_) de_
 ·
  rintro rfl; exact absurd (blk_kind hb h.tbox) de_
 ·
  rintro rfl; exact absurd (blk_kind hb h.cbox) de_
 ·
  rintro rfl; exact absurd (blk_kind hb h.tree) de_
 ·
  rintro rfl; exact blk_map hb h.map
theorem CpAt.kid_ok (h : CpAt w0 w ns g gf gt gc g2 rb2 gr ra2 n2 D) {u : Value} {us : List Nat} (hO : Own w TP 1 u (ptrL us)) (hn : ∀ k, u.ownBlock = some k → ∀ p ∈ D, ∀ s, (p.2.sv s).ownBlock ≠ some k) {k : Nat} (hk : u.ownBlock = some k) : (∀ p ∈ D, p.2.g ≠ k ∧ ∀ s, (p.2.sv s).ownBlock ≠ some k) ∧ k ≠ gf ∧ k ≠ gt ∧ k ≠ gc ∧ k ≠ g2 ∧ k ≠ rb2 := by
 obtain ⟨_, _, hb⟩ := hO.kind hk
 refine ⟨fun p hp => ⟨?_, hn k hk p hp⟩, ?_, ?_, ?_, ?_, ?_⟩
 ·
  rintro rfl
  obtain ⟨_, _, _, h3⟩ := h.node p hp
  exact absurd (blk_kind hb h3) de_
 ·
  rintro rfl; exact absurd (blk_kind hb h.from_) de_
 ·
  rintro rfl; exact absurd (blk_kind hb h.tbox) de_
 ·
  rintro rfl; exact absurd (blk_kind hb h.cbox) de_
 ·
  rintro rfl; exact absurd (blk_kind hb h.tree) de_
 ·
  rintro rfl; exact blk_map hb h.map
theorem CpAt.lt (h : CpAt w0 w ns g gf gt gc g2 rb2 gr ra2 n2 D) {p : Nat × Nn} (hp : p ∈ D) : p.2.g < w.heap.size ∧ ∀ (s : Bool) (k : Nat), (p.2.sv s).ownBlock = some k → k < w.heap.size := by
 obtain ⟨_, _, _, h3⟩ := h.node p hp
 exact ⟨h3.lt, fun s k hk => (h.kids p hp s).lt k hk⟩
end
structure CpMid (w0 w wj : World) (ns : List Nn) (g gf gt gc g2 rb2 gr ra2 n2 : Nat) (D Dk : List (Nat × Nn)) (el : El) (gm : Nat) (u v : Value) (us vs done : List Nat) : Prop where
 cp : CpAt w0 wj ns g gf gt gc g2 rb2 gr ra2 n2 Dk
 pre : ∃ X, Dk = D ++ X ∧ ∀ p ∈ X, w.heap.size ≤ p.2.g ∧ ∀ (s : Bool) (k : Nat), (p.2.sv s).ownBlock = some k → w.heap.size ≤ k
 cover : ∀ j, (∃ p ∈ Dk, p.1 = j) ↔ (∃ p ∈ D, p.1 = j) ∨ j ∈ done
 blk : Blk wj gm TN (nodeC el u v)
 low : w.heap.size ≤ gm
 ne : ∀ p ∈ Dk, p.2.g ≠ gm
 chg : Chg (fun k => k = rb2) w wj
 own : Own wj TP 1 u (ptrL us) ∧ Own wj TP 1 v (ptrL vs)
 fresh : ∀ k, u.ownBlock = some k ∨ v.ownBlock = some k → w.heap.size ≤ k ∧ ∀ p ∈ Dk, ∀ s, (p.2.sv s).ownBlock ≠ some k
 uv : ∀ k, u.ownBlock = some k → v.ownBlock ≠ some k
 base : w0.heap.size ≤ w.heap.size
def CpOk (w0 : World) (ns : List Nn) (g gf gt gc g2 rb2 gr ra2 n2 c : Nat) : Prop := ∀ (w : World) (D : List (Nat × Nn)), CpAt w0 w ns g gf gt gc g2 rb2 gr ra2 n2 D → (∀ p ∈ D, p.1 ∉ walkE (Fw.els ns) c) →
 Calls Tryd.prog 52 #[.pointer (some ⟨gOf ns c, 0, none⟩), .pointer (some ⟨gf, 0, none⟩), .pointer (some ⟨gt, 0, none⟩), .pointer (some ⟨gc, 0, none⟩)] w (Ret fun r w' => ∃ X y, r = .pointer (some ⟨y.g, 0, none⟩) ∧ CpAt w0 w' ns g gf gt gc g2 rb2 gr ra2 n2 (D ++ X) ∧ (c, y) ∈ X ∧ (∀ j, (∃ p ∈ X, p.1 = j) ↔ j ∈ walkE (Fw.els ns) c) ∧
  (∀ p ∈ X, w.heap.size ≤ p.2.g ∧ ∀ (s : Bool) (k : Nat), (p.2.sv s).ownBlock = some k → w.heap.size ≤ k) ∧ Chg (fun k => k = rb2) w w')
section
variable {w0 w wj w' : World} {ns : List Nn} {g gf gt gc g2 rb2 gr ra2 n2 : Nat} {D Dk X : List (Nat × Nn)} {el : El} {gm : Nat} {u v : Value} {us vs done : List Nat}
theorem CpMid.then (h : CpMid w0 w wj ns g gf gt gc g2 rb2 gr ra2 n2 D Dk el gm u v us vs done) (hx : Ext wj w') : CpMid w0 w w' ns g gf gt gc g2 rb2 gr ra2 n2 D Dk el gm u v us vs done :=
 ⟨h.cp.then hx, h.pre, h.cover, h.blk.ext hx, h.low, h.ne, h.chg.thenExt hx, ⟨h.own.1.ext hx, h.own.2.ext hx⟩, h.fresh, h.uv, h.base⟩
theorem CpMid.mapne (h : CpMid w0 w wj ns g gf gt gc g2 rb2 gr ra2 n2 D Dk el gm u v us vs done) : gm ≠ rb2 ∧ ∀ k, u.ownBlock = some k ∨ v.ownBlock = some k → k ≠ rb2 := by
 refine ⟨?_, fun k hk => ?_⟩
 ·
  rintro rfl; exact blk_map h.blk h.cp.map
 ·
  rintro rfl
  rcases hk with hk | hk
  ·
   obtain ⟨_, _, hb⟩ := h.own.1.kind hk; exact blk_map hb h.cp.map
  ·
   obtain ⟨_, _, hb⟩ := h.own.2.kind hk; exact blk_map hb h.cp.map
theorem CpMid.call (h : CpMid w0 w wj ns g gf gt gc g2 rb2 gr ra2 n2 D Dk el gm u v us vs done) {l : List Nat} (hX : CpAt w0 w' ns g gf gt gc g2 rb2 gr ra2 n2 (Dk ++ X)) (hcov : ∀ j, (∃ p ∈ X, p.1 = j) ↔ j ∈ l)
  (hnew : ∀ p ∈ X, wj.heap.size ≤ p.2.g ∧ ∀ (s : Bool) (k : Nat), (p.2.sv s).ownBlock = some k → wj.heap.size ≤ k) (hc : Chg (fun k => k = rb2) wj w') : CpMid w0 w w' ns g gf gt gc g2 rb2 gr ra2 n2 D (Dk ++ X) el gm u v us vs (done ++ l) where
 cp := hX
 pre := by
  obtain ⟨Y, rfl, hY⟩ := h.pre
  have hsz := h.chg.size
  refine ⟨Y ++ X, by rw [List.append_assoc], fun p hp => ?_⟩
  rcases List.mem_append.1 hp with hp | hp
  ·
   exact hY p hp
  ·
   have := hnew p hp
   exact ⟨by omega, fun s k hk => by have := this.2 s k hk; omega⟩
 cover j := by
  constructor
  ·
   rintro ⟨p, hp, hj⟩
   rcases List.mem_append.1 hp with hp | hp
   ·
    rcases (h.cover j).1 ⟨p, hp, hj⟩ with hh | hh
    ·
     exact .inl hh
    ·
     exact .inr (List.mem_append_left _ hh)
   ·
    exact .inr (List.mem_append_right _ ((hcov j).1 ⟨p, hp, hj⟩))
  ·
   rintro (hh | hh)
   ·
    obtain ⟨p, hp, hj⟩ := (h.cover j).2 (.inl hh); exact ⟨p, List.mem_append_left _ hp, hj⟩
   ·
    rcases List.mem_append.1 hh with hh | hh
    ·
     obtain ⟨p, hp, hj⟩ := (h.cover j).2 (.inr hh); exact ⟨p, List.mem_append_left _ hp, hj⟩
    ·
     obtain ⟨p, hp, hj⟩ := (hcov j).2 hh; exact ⟨p, List.mem_append_right _ hp, hj⟩
 blk := h.blk.chg hc h.mapne.1
 low := h.low
 ne p hp := by
  rcases List.mem_append.1 hp with hp | hp
  ·
   exact h.ne p hp
  ·
   have := (hnew p hp).1; have := h.blk.lt; omega
 chg := h.chg.trans hc fun k _ hk => hk
 own := ⟨h.own.1.chg hc fun k hk => h.mapne.2 k (.inl hk), h.own.2.chg hc fun k hk => h.mapne.2 k (.inr hk)⟩
 fresh k hk := by
  refine ⟨(h.fresh k hk).1, fun p hp s hp2 => ?_⟩
  rcases List.mem_append.1 hp with hp | hp
  ·
   exact (h.fresh k hk).2 p hp s hp2
  ·
   have := (hnew p hp).2 s k hp2
   rcases hk with hk | hk
   ·
    have := h.own.1.lt k hk; omega
   ·
    have := h.own.2.lt k hk; omega
 uv := h.uv
 base := h.base
theorem CpMid.putL (h : CpMid w0 w wj ns g gf gt gc g2 rb2 gr ra2 n2 D Dk el gm u v us vs done) {w1 w2 : World} {x' : Value} {x : Nat} (hc1 : Chg (fun k => u.ownBlock = some k) wj w1) (hO : Own w1 TP 1 x' (ptrL (us ++ [x]))) (hf : x'.ownBlock = u.ownBlock ∨ ∀ k, x'.ownBlock = some k → wj.heap.size ≤ k) (hc2 : Chg (fun k => k = gm) w1 w2) (hB : Blk w2 gm TN (nodeC el x' v)) : CpMid w0 w w2 ns g gf gt gc g2 rb2 gr ra2 n2 D Dk el gm x' v (us ++ [x]) vs done := by
 have hzw := h.chg.size
 have hz1 := hc1.size
 have hbase := h.base
 have hgl := h.blk.lt
 have hlow := h.low
 have hdk : ∀ p ∈ Dk, ∀ (s : Bool) (k : Nat), (p.2.sv s).ownBlock = some k → k < wj.heap.size := fun p hp s k hk => (h.cp.lt hp).2 s k hk
 have hkU : ∀ k, u.ownBlock = some k → k ≠ gm := fun k hk e => by
  subst e
  obtain ⟨_, _, hb⟩ := h.own.1.kind hk
  exact absurd (blk_kind hb h.blk) de_
 have hkV : ∀ k, v.ownBlock = some k → k ≠ gm := fun k hk e => by
  subst e
  obtain ⟨_, _, hb⟩ := h.own.2.kind hk
  exact absurd (blk_kind hb h.blk) de_
 have hltV : ∀ k, v.ownBlock = some k → k < wj.heap.size := fun k hk => h.own.2.lt k hk
 have hrU : ∀ k, u.ownBlock = some k → k ≠ rb2 := fun k hk => h.mapne.2 k (.inl hk)
 have hgr := h.mapne.1
 have hcp1 := h.cp.chg hc1 (fun k hk => by have := (h.fresh k (.inl hk)).1; omega) (fun k hk => h.cp.kid_ok h.own.1 (fun k hk => (h.fresh k (.inl hk)).2) hk)
 have hB1 : Blk w1 gm TN (nodeC el u v) := h.blk.chg hc1 fun hk => hkU gm hk rfl
 have hcp2 := hcp1.chg hc2 (fun k hk => by have hk : k = gm := hk; omega) (fun k hk => by have hk : k = gm := hk; subst hk; exact hcp1.node_ok hB1 h.ne)
 have hxne : ∀ k, x'.ownBlock = some k → k ≠ gm := fun k hk => by
  rcases hf with e | e
  ·
   rw [e] at hk; exact hkU k hk
  ·
   have := e k hk; omega
 have hxfr : ∀ k, x'.ownBlock = some k → w.heap.size ≤ k ∧ ∀ p ∈ Dk, ∀ s, (p.2.sv s).ownBlock ≠ some k := fun k hk => by
  rcases hf with e | e
  ·
   rw [e] at hk; exact h.fresh k (.inl hk)
  ·
   have h1 := e k hk
   exact ⟨by omega, fun p hp s hp2 => by have := hdk p hp s k hp2; omega⟩
 have hxV : ∀ k, x'.ownBlock = some k → v.ownBlock ≠ some k := fun k hk hv => by
  rcases hf with e | e
  ·
   rw [e] at hk; exact h.uv k hk hv
  ·
   have := e k hk; have := hltV k hv; omega
 have hVfr : ∀ k, v.ownBlock = some k → w.heap.size ≤ k ∧ ∀ p ∈ Dk, ∀ s, (p.2.sv s).ownBlock ≠ some k := fun k hk => h.fresh k (.inr hk)
 have hxO : Own w2 TP 1 x' (ptrL (us ++ [x])) := hO.chg hc2 fun k hk e => hxne k hk e
 have hVO : Own w2 TP 1 v (ptrL vs) := (h.own.2.chg hc1 fun k hk hu => h.uv k hu hk).chg hc2 fun k hk e => hkV k hk e
 exact ⟨hcp2, h.pre, h.cover, hB, h.low, h.ne, Chg.trans (Chg.trans (h.chg.mono (T := fun k => k = rb2 ∨ w.heap.size ≤ k) fun k _ hk => .inl hk) hc1 fun k _ hk => .inr (h.fresh k (.inl hk)).1) hc2 (fun k _ hk => .inr (by have hk : k = gm := hk; omega)) |>.mono (fun k hk hh => by
   rcases hh with hh | hh
   ·
    exact hh
   ·
    omega), ⟨hxO, hVO⟩, fun k hk => by
   rcases hk with hk | hk
   ·
    exact hxfr k hk
   ·
    exact hVfr k hk, hxV, h.base⟩
theorem CpMid.putR (h : CpMid w0 w wj ns g gf gt gc g2 rb2 gr ra2 n2 D Dk el gm u v us vs done) {w1 w2 : World} {x' : Value} {x : Nat} (hc1 : Chg (fun k => v.ownBlock = some k) wj w1) (hO : Own w1 TP 1 x' (ptrL (vs ++ [x]))) (hf : x'.ownBlock = v.ownBlock ∨ ∀ k, x'.ownBlock = some k → wj.heap.size ≤ k) (hc2 : Chg (fun k => k = gm) w1 w2) (hB : Blk w2 gm TN (nodeC el u x')) : CpMid w0 w w2 ns g gf gt gc g2 rb2 gr ra2 n2 D Dk el gm u x' us (vs ++ [x]) done := by
 have hzw := h.chg.size
 have hz1 := hc1.size
 have hbase := h.base
 have hgl := h.blk.lt
 have hlow := h.low
 have hdk : ∀ p ∈ Dk, ∀ (s : Bool) (k : Nat), (p.2.sv s).ownBlock = some k → k < wj.heap.size := fun p hp s k hk => (h.cp.lt hp).2 s k hk
 have hkU : ∀ k, v.ownBlock = some k → k ≠ gm := fun k hk e => by
  subst e
  obtain ⟨_, _, hb⟩ := h.own.2.kind hk
  exact absurd (blk_kind hb h.blk) de_
 have hkV : ∀ k, u.ownBlock = some k → k ≠ gm := fun k hk e => by
  subst e
  obtain ⟨_, _, hb⟩ := h.own.1.kind hk
  exact absurd (blk_kind hb h.blk) de_
 have hltV : ∀ k, u.ownBlock = some k → k < wj.heap.size := fun k hk => h.own.1.lt k hk
 have hrU : ∀ k, v.ownBlock = some k → k ≠ rb2 := fun k hk => h.mapne.2 k (.inr hk)
 have hgr := h.mapne.1
 have hcp1 := h.cp.chg hc1 (fun k hk => by have := (h.fresh k (.inr hk)).1; omega) (fun k hk => h.cp.kid_ok h.own.2 (fun k hk => (h.fresh k (.inr hk)).2) hk)
 have hB1 : Blk w1 gm TN (nodeC el u v) := h.blk.chg hc1 fun hk => hkU gm hk rfl
 have hcp2 := hcp1.chg hc2 (fun k hk => by have hk : k = gm := hk; omega) (fun k hk => by have hk : k = gm := hk; subst hk; exact hcp1.node_ok hB1 h.ne)
 have hxne : ∀ k, x'.ownBlock = some k → k ≠ gm := fun k hk => by
  rcases hf with e | e
  ·
   rw [e] at hk; exact hkU k hk
  ·
   have := e k hk; omega
 have hxfr : ∀ k, x'.ownBlock = some k → w.heap.size ≤ k ∧ ∀ p ∈ Dk, ∀ s, (p.2.sv s).ownBlock ≠ some k := fun k hk => by
  rcases hf with e | e
  ·
   rw [e] at hk; exact h.fresh k (.inr hk)
  ·
   have h1 := e k hk
   exact ⟨by omega, fun p hp s hp2 => by have := hdk p hp s k hp2; omega⟩
 have hxV : ∀ k, x'.ownBlock = some k → u.ownBlock ≠ some k := fun k hk hv => by
  rcases hf with e | e
  ·
   rw [e] at hk; exact h.uv k hv hk
  ·
   have := e k hk; have := hltV k hv; omega
 have hVfr : ∀ k, u.ownBlock = some k → w.heap.size ≤ k ∧ ∀ p ∈ Dk, ∀ s, (p.2.sv s).ownBlock ≠ some k := fun k hk => h.fresh k (.inl hk)
 have hxO : Own w2 TP 1 x' (ptrL (vs ++ [x])) := hO.chg hc2 fun k hk e => hxne k hk e
 have hVO : Own w2 TP 1 u (ptrL us) := (h.own.1.chg hc1 fun k hk hu => h.uv k hk hu).chg hc2 fun k hk e => hkV k hk e
 exact ⟨hcp2, h.pre, h.cover, hB, h.low, h.ne, Chg.trans (Chg.trans (h.chg.mono (T := fun k => k = rb2 ∨ w.heap.size ≤ k) fun k _ hk => .inl hk) hc1 fun k _ hk => .inr (h.fresh k (.inr hk)).1) hc2 (fun k _ hk => .inr (by have hk : k = gm := hk; omega)) |>.mono (fun k hk hh => by
   rcases hh with hh | hh
   ·
    exact hh
   ·
    omega), ⟨hVO, hxO⟩, fun k hk => by
   rcases hk with hk | hk
   ·
    exact hVfr k hk
   ·
    exact hxfr k hk, fun k hk hv => hxV k hv hk, h.base⟩
theorem CpMid.start {w1 w2 : World} (h : CpAt w0 w ns g gf gt gc g2 rb2 gr ra2 n2 D) (hx : Ext w w2) (hB : Blk w2 gm TN (nodeC el (.slice none 0 0) (.slice none 0 0))) (hg : w.heap.size ≤ gm) : CpMid w0 w w2 ns g gf gt gc g2 rb2 gr ra2 n2 D D el gm (.slice none 0 0) (.slice none 0 0) [] [] [] :=
 ⟨h.then hx, ⟨[], by simp, fun p hp => nomatch hp⟩, fun j => by simp, hB, hg, fun p hp e => by have := (h.lt hp).1; omega, hx.chg, ⟨Own.nil, Own.nil⟩, fun k hk => by rcases hk with hk | hk <;> simp [Value.ownBlock] at hk, fun k hk => by simp [Value.ownBlock] at hk, h.ext.size⟩
theorem CpMid.fin {i : Nat} {z : Nn} (hG : Fu.Good (Fw.els ns)) (hz : ns[i]? = some z) (hel : nodeC el u v = nodeC z.el u v) (h : CpMid w0 w wj ns g gf gt gc g2 rb2 gr ra2 n2 D Dk el gm u v (z.el.left.map (gD Dk)) (z.el.right.map (gD Dk)) (z.el.left.flatMap (walkE (Fw.els ns)) ++ z.el.right.flatMap (walkE (Fw.els ns))))
  (hno : ∀ p ∈ D, p.1 ∉ walkE (Fw.els ns) i) (hc : Chg (fun k => k = rb2) wj w') (hM : MapAt w' rb2 BE.me (entD (Dk ++ [(i, (⟨z.el, gm, u, v⟩ : Nn))])) (entD (Dk ++ [(i, (⟨z.el, gm, u, v⟩ : Nn))])).length) :
  ∃ X y, Value.pointer (some ⟨gm, 0, none⟩) = .pointer (some ⟨y.g, 0, none⟩) ∧ CpAt w0 w' ns g gf gt gc g2 rb2 gr ra2 n2 (D ++ X) ∧ (i, y) ∈ X ∧ (∀ j, (∃ p ∈ X, p.1 = j) ↔ j ∈ walkE (Fw.els ns) i) ∧ (∀ p ∈ X, w.heap.size ≤ p.2.g ∧ ∀ (s : Bool) (k : Nat), (p.2.sv s).ownBlock = some k → w.heap.size ≤ k) ∧ Chg (fun k => k = rb2) w w' := by
 have hze : (Fw.els ns)[i]? = some z.el := by rw [List.getElem?_map, hz]; rfl
 have hil := (List.getElem?_eq_some_iff.1 hze).1
 have hwk := walkE_eq hG.down hze
 have hnd := walk_nodup hG i hil
 have hnd' := hnd
 rw [hwk, List.nodup_append] at hnd
 have hnc := List.nodup_cons.1 hnd.2.1
 have hself : ∀ c, c < (Fw.els ns).length → c ∈ walkE (Fw.els ns) c := fun c hc => by
  obtain ⟨x, hx⟩ : ∃ x, (Fw.els ns)[c]? = some x := ⟨_, List.getElem?_eq_getElem hc⟩
  rw [walkE_eq hG.down hx]; simp
 have hin : ∀ c, c ∈ z.el.left ∨ c ∈ z.el.right → ∃ q ∈ Dk, q.1 = c := fun c hc => by
  refine (h.cover c).2 (.inr ?_)
  have hcl := (hG.down i z.el hze c hc).2
  rcases hc with hc | hc
  ·
   exact List.mem_append_left _ (List.mem_flatMap.2 ⟨c, hc, hself c hcl⟩)
  ·
   exact List.mem_append_right _ (List.mem_flatMap.2 ⟨c, hc, hself c hcl⟩)
 have hiD : ∀ p ∈ Dk, p.1 ≠ i := fun p hp e => by
  rcases (h.cover i).1 ⟨p, hp, e⟩ with ⟨q, hq, hqe⟩ | hh
  ·
   exact hno q hq (by rw [hqe]; exact hself i hil)
  ·
   rcases List.mem_append.1 hh with hh | hh
   ·
    exact hnd.2.2 i hh i (by simp) rfl
   ·
    exact hnc.1 hh
 have hgd : ∀ l : List Nat, (∀ c ∈ l, ∃ q ∈ Dk, q.1 = c) → l.map (gD (Dk ++ [(i, (⟨z.el, gm, u, v⟩ : Nn))])) = l.map (gD Dk) := fun l hl => List.map_congr_left fun c hc => gD_app (hl c hc)
 obtain ⟨X, hX, hXn⟩ := h.pre
 have hmn := h.mapne
 refine ⟨X ++ [(i, ⟨z.el, gm, u, v⟩)], ⟨z.el, gm, u, v⟩, rfl, ?_, by simp, fun j => ?_, fun p hp => ?_, h.chg.trans hc fun k _ hk => hk⟩
 ·
  rw [← List.append_assoc, ← hX]
  have hne0 : ∀ {k : Nat} {cs : Array Value} {t : TypeId} {fz : Nat × Nat}, wj.heap[k]? = some (.cells cs t fz) → k ≠ rb2 := fun hk e => by subst e; exact blk_map hk h.cp.map
  refine ⟨h.cp.ext.step hc (fun k hk => by have hk : k = rb2 := hk; rw [hk]; exact h.cp.low), h.cp.from_.chg hc fun e => hne0 h.cp.from_ e, h.cp.tbox.chg hc fun e => hne0 h.cp.tbox e, h.cp.cbox.chg hc fun e => hne0 h.cp.cbox e, h.cp.tree.chg hc fun e => hne0 h.cp.tree e, hM, fun p hp => ?_, fun p hp s => ?_, fun p hp c hcc => ?_, ?_, fun p hp q hq e => ?_, fun p hp q hq s t k e1 e2 => ?_, h.cp.low, fun p hp => ?_⟩
  ·
   rcases List.mem_append.1 hp with hp | hp
   ·
    obtain ⟨y, h1, h2, h3⟩ := h.cp.node p hp
    exact ⟨y, h1, h2, h3.chg hc fun e => hne0 h3 e⟩
   ·
    simp at hp; subst hp
    exact ⟨z, hz, rfl, by show Blk w' gm TN (nodeC z.el u v); rw [← hel]; exact h.blk.chg hc hmn.1⟩
  ·
   rcases List.mem_append.1 hp with hp | hp
   ·
    rw [hgd _ fun c hcm => h.cp.has p hp c (by unfold side at hcm; cases s <;> first | exact .inr hcm | exact .inl hcm)]
    exact (h.cp.kids p hp s).chg hc fun k hk e => by obtain ⟨_, _, hb⟩ := (h.cp.kids p hp s).kind hk; exact hne0 hb e
   ·
    simp at hp; subst hp
    rw [hgd _ fun c hcm => hin c (by unfold side at hcm; cases s <;> first | exact .inr hcm | exact .inl hcm)]
    cases s
    ·
     exact h.own.2.chg hc fun k hk e => hmn.2 k (.inr hk) e
    ·
     exact h.own.1.chg hc fun k hk e => hmn.2 k (.inl hk) e
  ·
   rcases List.mem_append.1 hp with hp | hp
   ·
    obtain ⟨q, hq, hqc⟩ := h.cp.has p hp c hcc; exact ⟨q, by simp [hq], hqc⟩
   ·
    simp at hp; subst hp
    obtain ⟨q, hq, hqc⟩ := hin c hcc; exact ⟨q, by simp [hq], hqc⟩
  ·
   rw [List.map_append, List.nodup_append]
   refine ⟨h.cp.nodup, by simp, fun a ha b hb => ?_⟩
   obtain ⟨p, hp, rfl⟩ := List.mem_map.1 ha
   simp at hb; subst hb
   exact hiD p hp
  ·
   rcases List.mem_append.1 hp with hp | hp <;> rcases List.mem_append.1 hq with hq | hq
   ·
    exact h.cp.inj p hp q hq e
   ·
    simp at hq; subst hq; exact absurd e (h.ne p hp)
   ·
    simp at hp; subst hp; exact absurd e.symm (h.ne q hq)
   ·
    simp at hp hq; rw [hp, hq]
  ·
   have hnew : ∀ (s : Bool) (k : Nat), ((⟨z.el, gm, u, v⟩ : Nn).sv s).ownBlock = some k → u.ownBlock = some k ∨ v.ownBlock = some k := fun s k hk => by cases s <;> simp [Nn.sv] at hk <;> simp [hk]
   rcases List.mem_append.1 hp with hp | hp <;> rcases List.mem_append.1 hq with hq | hq
   ·
    exact h.cp.sep p hp q hq s t k e1 e2
   ·
    simp at hq; subst hq; exact absurd e1 ((h.fresh k (hnew t k e2)).2 p hp s)
   ·
    simp at hp; subst hp; exact absurd e2 ((h.fresh k (hnew s k e1)).2 q hq t)
   ·
    simp at hp hq; subst hp; subst hq
    refine ⟨rfl, ?_⟩
    cases s <;> cases t <;> simp only [Nn.sv, cond_true, cond_false] at e1 e2 <;> first | rfl | exact absurd e2 (h.uv k e1) | exact absurd e1 (h.uv k e2)
  ·
   have hb := h.base
   rcases List.mem_append.1 hp with hp | hp
   ·
    exact h.cp.new p hp
   ·
    simp at hp; subst hp
    have hl := h.low
    refine ⟨by show w0.heap.size ≤ gm; omega, fun s k hk => ?_⟩
    have := (h.fresh k (by cases s <;> simp [Nn.sv] at hk <;> simp [hk])).1
    omega
 ·
  rw [hwk]
  constructor
  ·
   rintro ⟨p, hp, rfl⟩
   rcases List.mem_append.1 hp with hp | hp
   ·
    have hpk : p ∈ Dk := by rw [hX]; simp [hp]
    rcases (h.cover p.1).1 ⟨p, hpk, rfl⟩ with ⟨q, hq, hqe⟩ | hh
    ·
     exfalso
     have hn := h.cp.nodup
     rw [hX, List.map_append, List.nodup_append] at hn
     exact hn.2.2 q.1 (List.mem_map_of_mem hq) p.1 (List.mem_map_of_mem hp) hqe
    ·
     rcases List.mem_append.1 hh with hh | hh <;> simp [hh]
   ·
    simp at hp; subst hp; simp
  ·
   intro hj
   rcases List.mem_append.1 hj with hj | hj
   ·
    obtain ⟨p, hp, hpe⟩ := (h.cover j).2 (.inr (List.mem_append_left _ hj))
    rw [hX] at hp
    rcases List.mem_append.1 hp with hp | hp
    ·
     exact absurd (by rw [hpe, hwk]; exact List.mem_append_left _ hj) (hno p hp)
    ·
     exact ⟨p, by simp [hp], hpe⟩
   ·
    rcases List.mem_cons.1 hj with rfl | hj
    ·
     exact ⟨(j, ⟨z.el, gm, u, v⟩), by simp, rfl⟩
    ·
     obtain ⟨p, hp, hpe⟩ := (h.cover j).2 (.inr (List.mem_append_right _ hj))
     rw [hX] at hp
     rcases List.mem_append.1 hp with hp | hp
     ·
      exact absurd (by rw [hpe, hwk]; exact List.mem_append_right _ (List.mem_cons_of_mem _ hj)) (hno p hp)
     ·
      exact ⟨p, by simp [hp], hpe⟩
 ·
  rcases List.mem_append.1 hp with hp | hp
  ·
   exact hXn p hp
  ·
   simp at hp; subst hp
   exact ⟨h.low, fun s k hk => (h.fresh k (by cases s <;> simp [Nn.sv] at hk <;> simp [hk])).1⟩
end
end Go.Proofs.YtmehkigmnpjcjaaDoor
/- Strings put together; the bytes of a string as a new slice. No condition. -/
namespace Go.Fw
open Go.RowKit
section
variable {P : Program} {n : NN} {fr : Fr} {w : World} {ty : TypeId}
theorem Y.addS {x y : Operand} {p q : ByteArray} {t t' : TypeId} (hx : ev fr x = some (.string p)) (hy : ev fr y = some (.string q)) (h : p.size + q.size ≤ 9223372036854775807) :
  Yw P n fr (.binOp .add t x y t') ty w (.string (p ++ q)) w := Y.bin hx hy (by simp [eqGuard_at_string]) (by
   have : ¬ (((p.size + q.size : Nat) : Int) > IntKind.i64.max) := by simp only [IntKind.max, IntKind.bits, IntKind.signed]; simp; omega
   simp only [binOp, Op.stringOp, this]
   rfl)
end
theorem bs_append (a b : List UInt8) : bs a ++ bs b = bs (a ++ b) := by
 apply ByteArray.ext
 simp [bs]
end Go.Fw
namespace Go.Fw
open Go.RowKit
section
variable {P : Program} {ops : Array Oper} {S : World → Prop} {n : NN} {Φ : Exit → Fr → World → Prop} {fr : Fr} {w : World} {fuel : Nat} {listed : Array Bool}
end
end Go.Fw
/- Edit scripts in memory; one step more, walked. No condition but bounds. -/
namespace Go.Fw
open Go.RowKit Go.Fu
theorem Y.subC {P : Program} {n : NN} {fr : Fr} {w : World} {ty : TypeId} {x y : Operand} {a b : Int} {c : Nat} {t t' : TypeId} (hx : ev fr x = some (.int .i64 a)) (hy : ev fr y = some (.int .i64 b)) (h : a - b = (c : Int)) (hb : -9223372036854775808 ≤ a - b ∧ a - b ≤ 9223372036854775807) : Yw P n fr (.binOp .sub t x y t') ty w (.int .i64 (c : Int)) w := by
 rw [← h]; exact Y.sub hx hy o2_
def edC (x : EdD) : List Value := [.int .i64 (x.kind : Int), .int .i64 (x.n : Int), .string (bs x.text)]
theorem edC_length (x : EdD) : (edC x).length = 3 := rfl
theorem one_edC {x : EdD} : ∀ u ∈ edC x, u.oneCell' = true := by
 intro u hu
 simp only [edC, List.mem_cons, List.not_mem_nil, or_false] at hu
 rcases hu with rfl | rfl | rfl <;> rfl
abbrev edL (l : List EdD) : List Value := (l.map edC).flatten
theorem edL_length (l : List EdD) : (edL l).length = l.length * 3 := flat_length edC_length l
section
variable {w : World} {a : Addr} {x : EdD} (h : Mem w a (edC x))
include h
theorem Mem.apiEdit0 : w.cell? (a.add 0) = some (.int .i64 (x.kind : Int)) := h.cell 0 rfl
theorem Mem.apiEdit1 : w.cell? (a.add 1) = some (.int .i64 (x.n : Int)) := h.cell 1 rfl
theorem Mem.apiEdit2 : w.cell? (a.add 2) = some (.string (bs x.text)) := h.cell 2 rfl
end
theorem edL_text {l : List EdD} {i : Nat} {x : EdD} (h : l[i]? = some x) (t : List UInt8) : edL l = (edL (l.take i) ++ [.int .i64 (x.kind : Int), .int .i64 (x.n : Int)]) ++ [.string (bs x.text)] ++ edL (l.drop (i + 1)) ∧ edL (l.set i ⟨x.kind, x.n, t⟩) = (edL (l.take i) ++ [.int .i64 (x.kind : Int), .int .i64 (x.n : Int)]) ++ [.string (bs t)] ++ edL (l.drop (i + 1)) := by
 obtain ⟨h1, h2⟩ := flat_split (enc := edC) (⟨x.kind, x.n, t⟩ : EdD) h
 exact ⟨by rw [edL, h1]; simp only [edC, List.append_assoc, List.cons_append, List.nil_append], by rw [edL, h2]; simp only [edC, List.append_assoc, List.cons_append, List.nil_append]⟩
theorem edL_n {l : List EdD} {i : Nat} {x : EdD} (h : l[i]? = some x) (n : Nat) : edL l = (edL (l.take i) ++ [.int .i64 (x.kind : Int)]) ++ [.int .i64 (x.n : Int)] ++ ([.string (bs x.text)] ++ edL (l.drop (i + 1))) ∧ edL (l.set i ⟨x.kind, n, x.text⟩) = (edL (l.take i) ++ [.int .i64 (x.kind : Int)]) ++ [.int .i64 (n : Int)] ++ ([.string (bs x.text)] ++ edL (l.drop (i + 1))) := by
 obtain ⟨h1, h2⟩ := flat_split (enc := edC) (⟨x.kind, n, x.text⟩ : EdD) h
 exact ⟨by rw [edL, h1]; simp only [edC, List.append_assoc, List.cons_append, List.nil_append], by rw [edL, h2]; simp only [edC, List.append_assoc, List.cons_append, List.nil_append]⟩
def lastK (l : List EdD) : Nat := ((l[l.length - 1]?).map EdD.kind).getD 0
theorem openE_new {l : List EdD} {k : Nat} (h : (l.length : Int) = 0 ∨ ¬ (lastK l : Int) = (k : Int)) : openE l k = l ++ [⟨k, 0, []⟩] := by
 rw [openE, if_neg]
 intro h1
 rw [List.getLast?_eq_getElem?] at h1
 rcases h with h | h
 ·
  rw [List.getElem?_eq_none_iff.2 om_] at h1; cases h1
 ·
  rw [lastK, h1] at h; exact h rfl
theorem openE_old {l : List EdD} {k : Nat} (h : ¬ ((l.length : Int) = 0 ∨ ¬ (lastK l : Int) = (k : Int))) : openE l k = l := by
 rw [openE, if_pos]
 rw [List.getLast?_eq_getElem?]
 have h0 : ¬ (l.length : Int) = 0 := fun e => h (.inl e)
 have h1 : (lastK l : Int) = (k : Int) := Decidable.not_not.1 fun e => h (.inr e)
 obtain ⟨x, hx⟩ : ∃ x, l[l.length - 1]? = some x := ⟨_, List.getElem?_eq_getElem om_⟩
 rw [hx]
 rw [lastK, hx] at h1
 simp only [Option.map_some, Option.getD_some] at h1 ⊢
 congr 1
 omega
theorem addE_set {l : List EdD} {s : Stp} {x : EdD} (h : (openE l s.kind)[(openE l s.kind).length - 1]? = some x) : addE l s = (openE l s.kind).set ((openE l s.kind).length - 1) (x.more s) := by
 unfold addE
 generalize openE l s.kind = m at h ⊢
 apply List.ext_getElem?
 intro i
 rw [List.getElem?_modify, List.getElem?_set]
 have hlt := (List.getElem?_eq_some_iff.1 h).1
 by_cases e : m.length - 1 = i
 ·
  subst e
  rw [if_pos rfl, if_pos hlt, h]; simp
 ·
  rw [if_neg e]
  cases m[i]? with
  | none => rfl
  | some y => show some (if m.length - 1 = i then _ else y) = _; rw [if_neg e]
def _root_.Go.Fu.Stp.str : Stp → List UInt8
 | .put y => [y]
 | _ => []
def BdE (l : List EdD) (N : Nat) : Prop := ∀ x ∈ l, x.n + x.text.length ≤ N
theorem BdE.open_ {l : List EdD} {N k : Nat} (h : BdE l N) : BdE (openE l k) N := fun x hx => by
 unfold openE at hx
 split at hx
 ·
  exact h x hx
 ·
  rcases List.mem_append.1 hx with hx | hx
  ·
   exact h x hx
  ·
   simp at hx; subst hx; simp
theorem BdE.add {l : List EdD} {N : Nat} (h : BdE l N) (s : Stp) : BdE (addE l s) (N + 1) := fun x hx => by
 obtain ⟨i, hi⟩ := List.mem_iff_getElem?.1 hx
 unfold addE at hi
 rw [List.getElem?_modify] at hi
 obtain ⟨y, hy, rfl⟩ := Option.map_eq_some_iff.1 hi
 have := h.open_ y (List.mem_of_getElem? hy)
 split
 ·
  cases s <;> simp [EdD.more] <;> omega
 ·
  omega
end Go.Fw
namespace Go.Proofs.YtmehkigmnpjcjaaDoor
open Go.RowKit Go.Fw Go.Fu Go.Pl
abbrev TE : TypeId := 100
abbrev TSE : TypeId := 86
abbrev UE := Tryd.underlying86
theorem sz0_apiEdit : (Tryd.prog.info? TE).map (·.size) = some 3 := by kernel_rfl
theorem sz_apiEdit (x : EdD) : (Tryd.prog.info? TE).map (·.size) = some (edC x).length := sz0_apiEdit
theorem fo_apiEdit0 : FieldOff Tryd.prog TE 0 0 := ⟨_, _, 1, Tryd.underlying100, rfl, by kernel_rfl, by decide, rfl⟩
theorem fo_apiEdit1 : FieldOff Tryd.prog TE 1 1 := ⟨_, _, 1, Tryd.underlying100, rfl, by kernel_rfl, by decide, rfl⟩
theorem fo_apiEdit2 : FieldOff Tryd.prog TE 2 2 := ⟨_, _, 1, Tryd.underlying100, rfl, by kernel_rfl, by decide, rfl⟩
theorem ai_edit : AppInfo Tryd.prog TE 3 32 := by
 have h : (Tryd.prog.info? TE).map (fun i => (i.size, i.bytes, i.zero)) = some (3, 32, some (.agg (edC ⟨0, 0, []⟩).toArray)) := by kernel_rfl
 obtain ⟨i, hi, h⟩ := Option.map_eq_some_iff.1 h
 injection h with h1 h2
 injection h2 with h2 h3
 exact ⟨i, _, hi, h3, h1, rfl, h2, by decide, by decide⟩
theorem build_edit (k : Nat) (w : World) : (Instr.build TE [(0, Value.int .i64 (k : Int))].toArray).run Tryd.prog w = .ok (.agg (edC ⟨k, 0, []⟩).toArray) w := run_build w _ _ _ (by
 have hb : ∀ parts, Tryd.prog.built TE parts = Instr.fill (fun i => #[(0, 1), (1, 1), (2, 1)][i]?) (edC ⟨0, 0, []⟩).toArray parts := fun parts => by kernel_rfl
 show Tryd.prog.built _ [(0, Value.int .i64 (k : Int))] = _
 rw [hb]
 have e0 : edC ⟨0, 0, []⟩ = [] ++ [Value.int .i64 ((0 : Nat) : Int)] ++ [Value.int .i64 ((0 : Nat) : Int), Value.string (bs [])] := rfl
 rw [e0, fill_step [] [Value.int .i64 ((0 : Nat) : Int)] [Value.int .i64 ((0 : Nat) : Int), Value.string (bs [])] [.int .i64 (k : Int)] rfl rfl rfl rfl, Instr.fill]
 rfl)
theorem bs1_edit (x : EdD) (w : World) : (Instr.buildSlice TSE 1 [(0, .agg (edC x).toArray)].toArray).run Tryd.prog w = .ok (.slice (some ⟨w.heap.size, 0, none⟩) 1 1) (w.alloc (.cells (edC x).toArray TE)) := by
 obtain ⟨i, z, hi, hz, hk, _⟩ := ai_edit
 exact run_bs1 UE hi hz om_ om_ rfl (by rw [edC_length, hk]) w
theorem ed_cell {w : World} {l : List EdD} {A : Option Addr} {m c : Nat} (h : Own w TE 3 (.slice A m c) (edL l)) : l.length = m ∧ (0 < m → ∃ a x, A = some a ∧ l[m - 1]? = some x ∧ x.kind = lastK l ∧ Mem w (a.add ((m - 1) * 3)) (edC x)) := by
 have h1 : l.length = m := by
  have h2 := (h.mem A m c rfl).2.2.1
  rw [edL_length] at h2; omega
 refine ⟨h1, fun h0 => ?_⟩
 obtain ⟨x, hx⟩ : ∃ x, l[m - 1]? = some x := ⟨_, List.getElem?_eq_getElem om_⟩
 obtain ⟨a, ha, hm⟩ := (h.sl edC_length de_).get hx
 exact ⟨a, x, ha, hx, by rw [lastK, h1, hx]; rfl, hm⟩
set_option maxRecDepth 100000 in
set_option maxHeartbeats 1000000 in
theorem fadd1_any (gl : Nat) (u0 : Value) (l : List EdD) (N : Nat) (s : Stp) (w : World) (hB : Blk w gl TSE [u0]) (hO : Own w TE 3 u0 (edL l)) (hlen : l.length ≤ 4000) (hbd : BdE l N) (hN : N ≤ 4000) : Calls Tryd.prog 54 #[.int .i64 (s.kind : Int), .string (bs s.str), .pointer (some ⟨gl, 0, none⟩)] w (Ret fun _ w' => ∃ u', Blk w' gl TSE [u'] ∧ Own w' TE 3 u' (edL (addE l s)) ∧ (∀ q, u'.ownBlock = some q → u0.ownBlock = some q ∨ w.heap.size ≤ q) ∧ Chg (fun q => q = gl ∨ u0.ownBlock = some q) w w') := by
 have hB2 := hB
 obtain ⟨A, m, c, rfl⟩ := hO.lens
 obtain ⟨u0, hu0⟩ : ∃ u0, u0 = Value.slice A m c := ⟨_, rfl⟩
 rw [← hu0]
 have hgl := hB.lt
 have hsk : s.kind ≤ 3 := by cases s <;> simp [Stp.kind]
 have hss : s.str.length ≤ 1 := by cases s <;> simp [Stp.str]
 obtain ⟨hm, hcell⟩ := ed_cell hO
 have hlK : (l.length : Int) = (m : Int) := by omega
 have hgu : ∀ q, (Value.slice A m c).ownBlock = some q → q ≠ gl := fun q hq e => by
  obtain ⟨_, _, h1⟩ := hO.kind hq
  subst e; exact absurd (blk_kind h1 hB) de_
 refine calls_of_CW 47 [] [(0, .int .i64 (s.kind : Int)), (1, .string (bs s.str)), (2, .pointer (some ⟨gl, 0, none⟩))] Tryd.func54 rfl rfl rfl (by simp) args3 ?_
 have hE : Ext w w := Chg.refl
 refine CW.seq_to (X := Value) (fun _ => [(0, .int .i64 (s.kind : Int)), (1, .string (bs s.str)), (2, .pointer (some ⟨gl, 0, none⟩))]) (fun u1 w0 => Blk w0 gl TSE [u1] ∧ Own w0 TE 3 u1 (edL (openE l s.kind)) ∧ (∀ q, u1.ownBlock = some q → u0.ownBlock = some q ∨ w.heap.size ≤ q) ∧ Chg (fun q => q = gl ∨ u0.ownBlock = some q) w w0) ?_ ?_
 ·
  skip
  refine CW.seq_test 18 ((m : Int) = 0 ∨ ¬ (lastK l : Int) = (s.kind : Int)) ?_ ?_
  ·
   refine CW.region ?_
   refine WL.v (Y.load1 Tryd.underlying86 rfl hB2.mem.cell0 rfl) ?_
   refine WL.v (Y.len_slice Tryd.underlying86 rfl) ?_
   refine WL.v (Y.eql rfl rfl) ?_
   refine WL.m rfl ?_
   (first | refine WL.casesD (d := 8) rfl ?_ ?_ | refine WL.casesND (d := 8) rfl ?_ ?_ | refine WL.cases (d := 8) rfl ?_ ?_) <;> intro hg8
   ·
    -- t8 = T
    refine WL.o rfl rfl ?_
    refine WL.o rfl rfl ?_
    refine WL.o rfl rfl ?_
    refine WL.o rfl rfl ?_
    refine WL.o rfl rfl ?_
    refine WL.o rfl rfl ?_
    refine WL.o rfl rfl ?_
    refine WL.o rfl rfl ?_
    refine WL.o rfl rfl ?_
    refine WL.v (Y.pick rfl rfl) ?_
    refine WL.nil ⟨⟨_, rfl, ?_⟩, rfl, Fr.okp⟩
    exact tst_ok
   ·
    -- t8 = F
    obtain ⟨a, x, rfl, hx, hxk, hma⟩ := hcell om_
    rw [← hxk]
    refine WL.g rfl rfl (Y.load1 Tryd.underlying86 rfl hB2.mem.cell0 rfl) ?_
    refine WL.g rfl rfl (Y.load1 Tryd.underlying86 rfl hB2.mem.cell0 rfl) ?_
    refine WL.g rfl rfl (Y.len_slice Tryd.underlying86 rfl) ?_
    refine WL.g rfl rfl (Y.subC (c := m - 1) rfl rfl om_ om_) ?_
    refine WL.g rfl rfl (Y.indexAddrN Tryd.underlying86 rfl rfl sz0_apiEdit om_) ?_
    refine WL.g rfl rfl (Y.fieldAddr fo_apiEdit0 rfl) ?_
    refine WL.g rfl rfl (Y.load1 Tryd.underlying3 rfl hma.apiEdit0 rfl) ?_
    refine WL.g rfl rfl (Y.move rfl) ?_
    refine WL.g rfl rfl (Y.neq rfl rfl) ?_
    refine WL.v (Y.pick rfl rfl) ?_
    refine WL.nil ⟨⟨_, rfl, ?_⟩, rfl, Fr.okp⟩
    exact tst_ok
  (first | refine cd_ rfl ?_ ?_ | refine ce_ rfl ?_ ?_ | refine cn_ rfl ?_ ?_ | refine cb_ rfl ?_ ?_) <;> intro ht2
  ·
   -- then
   refine CW.region ?_
   refine WL.v (Y.load1 Tryd.underlying86 rfl hB2.mem.cell0 rfl) ?_
   refine WL.m rfl ?_
   refine WL.v (Y.build rfl (build_edit _ _)) ?_
   refine WL.st (St.buildSlice rfl (bs1_edit _)) de_ fun v22 w1 hR1 => ?_
   obtain ⟨g22, rfl, hg22, hB22, hx1⟩ := hR1
   have hz1 := hx1.size
   refine WL.st (St.append (m := 1) (news := edC ⟨s.kind, 0, []⟩) UE UE ai_edit rfl rfl (hO.ext hx1) (Fw.Src.one hB22 rfl) one_edC (by rw [edL_length]; omega)) de_ fun v23 w2 hR2 => ?_
   obtain ⟨hO2, hc2, hf2⟩ := hR2
   have hz2 := hc2.size
   obtain ⟨A7, m7, c7, rfl⟩ := hO2.lens
   have hB2 := (hB2.ext hx1).chg hc2 (fun h => hgu _ h rfl)
   have hO2 : Own w2 TE 3 (.slice A7 m7 c7) (edL (openE l s.kind)) := by rw [openE_new (by rw [hlK]; assumption)]; simpa [edL] using hO2
   refine WL.store (g := gl) (pre := []) (old := [.slice A m c]) (post := []) (new := [.slice A7 m7 c7]) rfl rfl rfl rfl kr_ (by simpa using hB2) ln_ (one1 rfl) (fun w3 hc3 hB3_ => ?_)
   have hz3 := hc3.size
   have hB2 : Blk w3 gl TSE [.slice A7 m7 c7] := by simpa using hB3_
   have hf7 : ∀ q, (Value.slice A7 m7 c7).ownBlock = some q → (Value.slice A m c).ownBlock = some q ∨ w.heap.size ≤ q := fun q hq => by
    rcases hf2 with h | h
    ·
     rw [h] at hq; exact .inl hq
    ·
     exact .inr (by have := h q hq; omega)
   have hO3 := hO2.chg hc3 (fun q hq e => by rcases hf7 q hq with h | h; exact hgu q h e; omega)
   have hC3 : Chg (fun q => q = gl ∨ u0.ownBlock = some q) w w3 := ((Ext.chg (S := (fun q => q = gl ∨ u0.ownBlock = some q)) hx1).trans hc2 (fun q _ h => .inr (by rw [hu0]; exact h))).trans hc3 (fun q _ h => .inl h)
   refine WL.nil ?_
   exact ⟨_, Fr.ok, hB2, hO3, (by rw [hu0]; exact hf7), hC3⟩
  refine CW.skip ?_
  exact ⟨_, Fr.ok, hB2, (by rw [openE_old (by rw [hlK]; assumption)]; exact hO), (fun q hq => .inl (by rw [hu0]; exact hq)), Chg.refl⟩
 rintro u w4 hj4
 obtain ⟨hB2, hO, hf, hC⟩ := hj4
 obtain ⟨A1, m1, c1, rfl⟩ := hO.lens
 obtain ⟨hm1, hcell1⟩ := ed_cell hO
 have hbd1 := hbd.open_ (k := s.kind)
 obtain ⟨x1, hx1, hxk⟩ := openE_last l s.kind
 have hl1 := openE_length l s.kind
 have hpos : 0 < m1 := by have := (List.getElem?_eq_some_iff.1 hx1).1; omega
 obtain ⟨a1, x2, rfl, hx2, _, hma1⟩ := hcell1 hpos
 rw [← hm1, hx1] at hx2
 obtain rfl := Option.some.inj hx2
 have hxb := hbd1 x1 (List.mem_of_getElem? hx1)
 obtain ⟨g1, hg1, _⟩ := hO.head (by
  intro h
  have h2 := edL_length (openE l s.kind)
  rw [h] at h2
  simp at h2; omega)
 injection hg1 with hg1
 subst hg1
 have hset := addE_set hx1
 rw [hm1] at hx1 hset
 refine CW.sr fun K3 hK3 => ?_
 refine WL.m rfl ?_
 refine WL.v (Y.eql rfl rfl) ?_
 refine WL.nil (hK3 _ _ ?_); try clear hK3
 (first | refine cd_ rfl ?_ ?_ | refine ce_ rfl ?_ ?_ | refine cn_ rfl ?_ ?_ | refine cb_ rfl ?_ ?_) <;> intro ht4
 ·
  -- then
  refine CW.region ?_
  refine WL.v (Y.load1 Tryd.underlying86 rfl hB2.mem.cell0 rfl) ?_
  refine WL.v (Y.load1 Tryd.underlying86 rfl hB2.mem.cell0 rfl) ?_
  refine WL.v (Y.len_slice Tryd.underlying86 rfl) ?_
  refine WL.v (Y.subC (c := m1 - 1) rfl rfl om_ om_) ?_
  refine WL.v (Y.indexAddrN Tryd.underlying86 rfl rfl sz0_apiEdit om_) ?_
  refine WL.v (Y.fieldAddr fo_apiEdit2 rfl) ?_
  refine WL.v (Y.load1 Tryd.underlying9 rfl hma1.apiEdit2 rfl) ?_
  refine WL.m rfl ?_
  refine WL.v (Y.addS rfl rfl ((by rw [bs_size, bs_size]; omega))) ?_
  refine WL.v (Y.indexAddrN Tryd.underlying86 rfl rfl sz0_apiEdit om_) ?_
  refine WL.v (Y.fieldAddr fo_apiEdit2 rfl) ?_
  refine WL.storeO (g := g1) (pre := edL ((openE l s.kind).take (m1 - 1)) ++ [.int .i64 (x1.kind : Int), .int .i64 (x1.n : Int)]) (old := [.string (bs x1.text)]) (post := edL ((openE l s.kind).drop (m1 - 1 + 1))) (new := [.string (bs x1.text ++ bs s.str)]) rfl (by rw [add_add, add_zero', List.length_append, edL_length, List.length_take, Nat.min_eq_left om_]; rfl) rfl rfl kr_ (by rw [← (edL_text hx1 []).1]; exact hO) ln_ (one1 rfl) (fun w5 hc5 hB5_ => ?_)
  have hz5 := hc5.size
  obtain ⟨y, rfl⟩ : ∃ y, s = .put y := by
   have ht : (s.kind : Int) = 3 := by assumption
   cases s with
   | put y => exact ⟨y, rfl⟩
   | _ => simp [Stp.kind] at ht
  rw [show bs x1.text ++ bs (Stp.put y).str = bs (x1.text ++ [y]) from bs_append _ _, ← (edL_text hx1 (x1.text ++ [y])).2] at hB5_
  have hO2 : Own w5 TE 3 (.slice (some ⟨g1, 0, none⟩) m1 c1) (edL (addE l (.put y))) := by rw [hset]; exact hB5_
  have hB2 := hB2.chg hc5 (fun e => by rcases hf g1 rfl with h | h; rw [hu0] at h; exact hgu _ h e.symm; omega)
  refine WL.nil ?_
  refine ⟨_, rfl, ?_⟩
  exact ⟨_, hB2, hO2, hf, hC.trans hc5 (fun q _ h => by have h : q = g1 := h; rw [h]; rcases hf g1 rfl with h | h; exact .inr h; omega)⟩
 refine CW.region ?_
 refine WL.v (Y.load1 Tryd.underlying86 rfl hB2.mem.cell0 rfl) ?_
 refine WL.v (Y.load1 Tryd.underlying86 rfl hB2.mem.cell0 rfl) ?_
 refine WL.v (Y.len_slice Tryd.underlying86 rfl) ?_
 refine WL.v (Y.subC (c := m1 - 1) rfl rfl om_ om_) ?_
 refine WL.v (Y.indexAddrN Tryd.underlying86 rfl rfl sz0_apiEdit om_) ?_
 refine WL.v (Y.fieldAddr fo_apiEdit1 rfl) ?_
 refine WL.v (Y.load1 Tryd.underlying3 rfl hma1.apiEdit1 rfl) ?_
 refine WL.v (Y.add rfl rfl o2_) ?_
 refine WL.v (Y.indexAddrN Tryd.underlying86 rfl rfl sz0_apiEdit om_) ?_
 refine WL.v (Y.fieldAddr fo_apiEdit1 rfl) ?_
 refine WL.storeO (g := g1) (pre := edL ((openE l s.kind).take (m1 - 1)) ++ [.int .i64 (x1.kind : Int)]) (old := [.int .i64 (x1.n : Int)]) (post := [.string (bs x1.text)] ++ edL ((openE l s.kind).drop (m1 - 1 + 1))) (new := [.int .i64 ((x1.n : Int) + 1)]) rfl (by rw [add_add, add_zero', List.length_append, edL_length, List.length_take, Nat.min_eq_left om_]; rfl) rfl rfl kr_ (by rw [← (edL_n hx1 0).1]; exact hO) ln_ (one1 rfl) (fun w6 hc6 hB6_ => ?_)
 have hz6 := hc6.size
 have hO2 : Own w6 TE 3 (.slice (some ⟨g1, 0, none⟩) m1 c1) (edL (addE l s)) := by
  have e : ((x1.n : Int) + 1) = ((x1.n + 1 : Nat) : Int) := by omega
  rw [e, ← (edL_n hx1 (x1.n + 1)).2] at hB6_
  have hmo : x1.more s = ⟨x1.kind, x1.n + 1, x1.text⟩ := by
   have ht : ¬ (s.kind : Int) = 3 := by assumption
   cases s with
   | put y => simp [Stp.kind] at ht
   | _ => rfl
  rw [hset, hmo]; exact hB6_
 have hB2 := hB2.chg hc6 (fun e => by rcases hf g1 rfl with h | h; rw [hu0] at h; exact hgu _ h e.symm; omega)
 refine WL.nil ?_
 refine ⟨_, rfl, ?_⟩
 exact ⟨_, hB2, hO2, hf, hC.trans hc6 (fun q _ h => by have h : q = g1 := h; rw [h]; rcases hf g1 rfl with h | h; exact .inr h; omega)⟩
end Go.Proofs.YtmehkigmnpjcjaaDoor
