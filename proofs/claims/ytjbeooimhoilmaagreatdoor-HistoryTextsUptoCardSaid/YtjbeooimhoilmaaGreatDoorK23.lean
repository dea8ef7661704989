/- Parts of a proof: what its last text leans on. No condition. -/
import Derived.Test.YtjbeooimhoilmaaGreatDoorK15
import Derived.Test.YtjbeooimhoilmaaGreatDoorK20
import Derived.Test.YtjbeooimhoilmaaGreatDoorK21
import Derived.Test.YtjbeooimhoilmaaGreatDoorK22
set_option linter.unusedSimpArgs false
set_option linter.unusedVariables false
/- The document's trees: Add, walked. No condition. -/
namespace Go.Fw
open Go.Fu Go.Pl
theorem RS.storeO {P : Program} {n : NN} {Φ : Exit → Fr → World → Prop} {fr : Fr} {w : World} {ops : Array Oper} {S : World → Prop} {fuel : Nat} {listed : Array Bool} {ty : TypeId} {i : Nat} {t e : TypeId} {x y : Operand} {pos : String} {aft : Array Edge} {v : Value} {g k m c : Nat} {pre old post new : List Value} {A : Addr}
  (hi : ops[i]? = some ⟨none, .store t x y, ty, pos, aft, none⟩)
  (hx : ev fr x = some (.pointer (some A))) (hA : A = ⟨g, pre.length, none⟩) (hy : ev fr y = some v) (hv : v.cells = new.toArray) (hS : (P.info? t).map (·.size) = some new.length)
  (hown : Own w e k (.slice (some ⟨g, 0, none⟩) m c) (pre ++ old ++ post)) (hl : new.length = old.length) (h1 : ∀ u ∈ new, u.oneCell' = true)
  (h : ∀ w', Chg (· = g) w w' → Own w' e k (.slice (some ⟨g, 0, none⟩) m c) (pre ++ new ++ post) → S w' ∧ RH P ops S n Φ fuel (listed.setIfInBounds i true) fr w') : RS P ops S n Φ fuel listed i fr w := fun a ha => by
 obtain ⟨w', hst, hc, hb'⟩ := hown.store (P := P) hl h1
 have hrun : (execOp a.eval ⟨none, .store t x y, ty, pos, aft, none⟩).run P w = .ok .skip w' := by
  simp [execOp, ha.ev hx, ha.ev hy, Instr.storeAt, Instr.sureAddr, storeVar, fw_sizeOf hS, hv, hA, hst]
 obtain ⟨h1, h2⟩ := h w' hc hb'
 unfold wpOp
 rw [hi]
 simp only [Region.wanted, if_true]
 refine .inl ?_
 unfold Oper.wp
 rw [hrun]
 exact ⟨h1, h2 _ ha⟩
theorem Own.blk {w : World} {e : TypeId} {k m c : Nat} {A : Option Addr} {xs : List Value} (h : Own w e k (.slice A m c) xs) (hx : xs ≠ []) : ∃ g, A = some ⟨g, 0, none⟩ := by
 rcases h with ⟨_, h⟩ | ⟨g, _, _, _, _, h, _⟩
 ·
  exact absurd h hx
 ·
  injection h with h
  exact ⟨g, h⟩
theorem rflat_get {l : List Rn} {a : Nat} {z : Rn} (h : l[a]? = some z) : (l.map rC).flatten = ((l.take a).map rC).flatten ++ rC z ++ ((l.drop (a + 1)).map rC).flatten := by
 induction l generalizing a with
 | nil => simp at h
 | cons y r ih =>
  cases a with
  | zero => simp at h; subst h; simp
  | succ a => have := ih (a := a) (by simpa using h); simp only [List.map_cons, List.flatten_cons, List.take_succ_cons, List.drop_succ_cons, this, List.append_assoc]
theorem rflat_set {l : List Rn} {a : Nat} {z : Rn} (y : Rn) (h : l[a]? = some z) : ((l.set a y).map rC).flatten = ((l.take a).map rC).flatten ++ rC y ++ ((l.drop (a + 1)).map rC).flatten := by
 have hl := (List.getElem?_eq_some_iff.1 h).1
 have h2 : (l.set a y)[a]? = some y := by rw [List.getElem?_set_self hl]
 rw [rflat_get h2, List.take_set_of_le (Nat.le_refl _), List.drop_set_of_lt (by omega)]
theorem rflat_len {l : List Rn} {a : Nat} (h : a ≤ l.length) : ((l.take a).map rC).flatten.length = a * 38 := by
 rw [flat_length rC_length, List.length_take, Nat.min_eq_left h]
def Rn.die (z : Rn) : Rn := ⟨{ z.el with gone := true }, z.lv, z.rv⟩
noncomputable def Rn.more (z : Rn) (e : List El) (s : Bool) (r : RefD) (v : Value) : Rn := ⟨z.el.more e s r, cond s v z.lv, cond s z.rv v⟩
def Rn.one (r : RefD) (b : UInt8) : Rn := ⟨⟨r, b, false, [], []⟩, .slice none 0 0, .slice none 0 0⟩
theorem modify_set {l : List El} {a : Nat} {x : El} {f : El → El} (h : l[a]? = some x) : l.modify a f = l.set a (f x) := by
 refine List.ext_getElem? fun i => ?_
 have hl := (List.getElem?_eq_some_iff.1 h).1
 rw [List.getElem?_modify, List.getElem?_set]
 by_cases e : a = i
 ·
  subst e; rw [h]; simp [hl]
 ·
  simp [e]
theorem rels_die {l : List Rn} {a : Nat} {z : Rn} (h : l[a]? = some z) : rels (l.set a z.die) = goneE (rels l) a := by
 rw [goneE, modify_set (x := z.el) (by rw [List.getElem?_map, h]; rfl), rels, List.map_set]; rfl
theorem rels_more {l : List Rn} {a : Nat} {z : Rn} {s : Bool} {r : RefD} {b : UInt8} {v : Value} (h : l[a]? = some z) : rels ((l ++ [Rn.one r b]).set a (z.more (rels l) s r v)) = growE (rels l) a s r b := by
 have hl := (List.getElem?_eq_some_iff.1 h).1
 rw [growE, modify_set (x := z.el) (by rw [List.getElem?_append_left (by rw [List.length_map]; exact hl), List.getElem?_map, h]; rfl), rels, List.map_set, List.map_append]; rfl
theorem rC_more (z : Rn) (e : List El) (s : Bool) (r : RefD) (v : Value) : rC (z.more e s r v) = nodeC z.el (cond s v z.lv) (cond s z.rv v) := by
 have h1 : (z.el.more e s r).name = z.el.name ∧ (z.el.more e s r).byte = z.el.byte ∧ (z.el.more e s r).gone = z.el.gone := by unfold El.more; split <;> exact ⟨rfl, rfl, rfl⟩
 unfold rC Rn.more nodeC
 rw [h1.1, h1.2.1, h1.2.2]
theorem side_more (z : El) (e : List El) (s t : Bool) (r : RefD) : side (z.more e s r) t = if t = s then kid e r (side z s) else side z t := by
 unfold El.more side
 cases s <;> cases t <;> rfl
theorem putN_congr {f f' : Nat → Bool} {n : Nat} : ∀ {l : List Nat}, (∀ q ∈ l, f q = f' q) → putN f n l = putN f' n l
 | [], _ => rfl
 | y :: r, h => by
  rw [putN, putN, h y (by simp), putN_congr fun q hq => h q (by simp [hq])]
end Go.Fw
namespace Go.Proofs.YtjbeooimhoilmaaGreatDoor
open Go.RowKit Go.Fw Go.Fu Go.Pl
section
variable {w w' : World} {g : Nat} {ad : List Dig} {rs : List Rn} {av ev_ : Value} {S : Nat → Prop}
theorem RtAt.set (h : RtAt w g ad rs av ev_) {a : Nat} {y : Rn} (hc : Chg S w w') (hS : ∀ q, S q → ev_.ownBlock = some q) (hO : Own w' TE8 38 ev_ (((rs.set a y).map rC).flatten)) (hk : ∀ s, Own w' TI8 1 (y.sv s) (intC (side y.el s))) : RtAt w' g ad (rs.set a y) av ev_ where
 blk := h.blk.chg hc fun e => h.ne.2.1 g (hS _ e) rfl
 ads := h.ads.chg hc fun k hk e => (h.ne.1 k hk).2 (hS _ e)
 es := hO
 kids x hx s := by
  rcases List.mem_or_eq_of_mem_set hx with hx | rfl
  ·
   exact (h.kids x hx s).chg hc fun k hk e => (h.ne.2.2 x hx s k hk).2.2 (hS _ e)
  ·
   exact hk s
theorem RtAt.push (h : RtAt w g ad rs av ev_) {y : Rn} {ev' : Value} (hc : Chg S w w') (hS : ∀ q, S q → q = g ∨ ev_.ownBlock = some q) (hb : Blk w' g TR8 [av, ev']) (hO : Own w' TE8 38 ev' (((rs ++ [y]).map rC).flatten)) (hk : ∀ s, Own w' TI8 1 (y.sv s) (intC (side y.el s))) : RtAt w' g ad (rs ++ [y]) av ev' where
 blk := hb
 ads := h.ads.chg hc fun k hk e => by
  rcases hS _ e with e | e
  ·
   exact (h.ne.1 k hk).1 e
  ·
   exact (h.ne.1 k hk).2 e
 es := hO
 kids x hx s := by
  rcases List.mem_append.1 hx with hx | hx
  ·
   exact (h.kids x hx s).chg hc fun k hk e => by
    rcases hS _ e with e | e
    ·
     exact (h.ne.2.2 x hx s k hk).1 e
    ·
     exact (h.ne.2.2 x hx s k hk).2.2 e
  ·
   simp at hx; subst hx; exact hk s
theorem RtAt.setAds (h : RtAt w g ad rs av ev_) {ad' : List Dig} {av' : Value} (hc : Chg S w w') (hS : ∀ q, S q → q = g ∨ av.ownBlock = some q) (hb : Blk w' g TR8 [av', ev_]) (hO : Own w' TD8 32 av' (flatD ad')) : RtAt w' g ad' rs av' ev_ where
 blk := hb
 ads := hO
 es := h.es.chg hc fun k hk e => by
  rcases hS _ e with e | e
  ·
   exact h.ne.2.1 k hk e
  ·
   exact (h.ne.1 k e).2 hk
 kids x hx s := (h.kids x hx s).chg hc fun k hk e => by
  rcases hS _ e with e | e
  ·
   exact (h.ne.2.2 x hx s k hk).1 e
  ·
   exact (h.ne.2.2 x hx s k hk).2.1 e
theorem Rp.setR {a : Nat} {y : Rn} {q : Nat} (h : Rp g (rs.set a y) av ev_ q) : Rp g rs av ev_ q ∨ ∃ s, (y.sv s).ownBlock = some q := by
 rcases h with h | h | h | ⟨x, hx, s, h⟩
 ·
  exact .inl (.inl h)
 ·
  exact .inl (.inr (.inl h))
 ·
  exact .inl (.inr (.inr (.inl h)))
 ·
  rcases List.mem_or_eq_of_mem_set hx with hx | rfl
  ·
   exact .inl (.inr (.inr (.inr ⟨x, hx, s, h⟩)))
  ·
   exact .inr ⟨s, h⟩
theorem Rp.pushR {y : Rn} {ev' : Value} {q : Nat} (h : Rp g (rs ++ [y]) av ev' q) : Rp g rs av ev_ q ∨ ev'.ownBlock = some q ∨ ∃ s, (y.sv s).ownBlock = some q := by
 rcases h with h | h | h | ⟨x, hx, s, h⟩
 ·
  exact .inl (.inl h)
 ·
  exact .inl (.inr (.inl h))
 ·
  exact .inr (.inl h)
 ·
  rcases List.mem_append.1 hx with hx | hx
  ·
   exact .inl (.inr (.inr (.inr ⟨x, hx, s, h⟩)))
  ·
   simp at hx; subst hx; exact .inr (.inr ⟨s, h⟩)
end
structure RAdd (w w0 : World) (g : Nat) (ad : List Dig) (rs : List Rn) (av ev_ : Value) (id : Dig) (ops : List OpD) (g4 : Nat) (k : Nat) (t : List Rn × Value × Value) : Prop where
 tree : RtAt w0 g (ad ++ [id]) t.1 t.2.1 t.2.2
 els : rels t.1 = addN id ops (rels rs) k
 chg : Chg (Rp g rs av ev_) w w0
 fresh : ∀ q, Rp g t.1 t.2.1 t.2.2 q → Rp g rs av ev_ q ∨ w.heap.size ≤ q
 idb : Blk w0 g4 TD8 (digC id)
 idn : ¬ Rp g t.1 t.2.1 t.2.2 g4
section
variable {w w0 w1 w' : World} {g : Nat} {ad : List Dig} {rs rs2 : List Rn} {av ev_ av2 ev2 ev3 : Value} {id : Dig} {ops : List OpD} {g4 k a : Nat} {z : Rn} {o : OpD}
theorem RAdd.del {gE : Nat} (h : RAdd w w0 g ad rs av ev_ id ops g4 k (rs2, av2, ev2)) (hx : Ext w0 w1) (hc : Chg (fun q => q = gE) w1 w') (hgE : ev2.ownBlock = some gE) (hz : rs2[a]? = some z) (hO : Own w' TE8 38 ev2 (((rs2.set a z.die).map rC).flatten)) (ho : ops[k]? = some o) (ha : atE (rels rs2) (res id o.at_) = some a) (hk : o.kind = 2) : RAdd w w' g ad rs av ev_ id ops g4 (k + 1) (rs2.set a z.die, av2, ev2) where
 tree := by
  have hT : RtAt w0 g (ad ++ [id]) rs2 av2 ev2 := h.tree
  refine (hT.ext hx).set hc (fun q e => by rw [e]; exact hgE) hO fun s => ?_
  have h1 := ((hT.kids z (List.mem_of_getElem? hz) s).ext hx).chg hc fun q hq e => (hT.ne.2.2 z (List.mem_of_getElem? hz) s q hq).2.2 (by rw [e]; exact hgE)
  cases s <;> exact h1
 els := by
  have he : rels rs2 = addN id ops (rels rs) k := h.els
  show rels (rs2.set a z.die) = _
  rw [rels_die hz, addN_at ho, ← he, step_del ha hk]
 chg := h.chg.stepO ((Ext.chg hx).trans hc fun q _ e => e) fun q hq => h.fresh q (.inr (.inr (.inl (by rw [show q = gE from hq]; exact hgE))))
 fresh q hq := by
  rcases Rp.setR hq with hq | ⟨s, hq⟩
  ·
   exact h.fresh q hq
  ·
   exact h.fresh q (.inr (.inr (.inr ⟨z, List.mem_of_getElem? hz, s, by cases s <;> exact hq⟩)))
 idb := (h.idb.ext hx).chg hc fun e => h.idn (.inr (.inr (.inl (by rw [e]; exact hgE))))
 idn hq := by
  rcases Rp.setR hq with hq | ⟨s, hq⟩
  ·
   exact h.idn hq
  ·
   exact h.idn (.inr (.inr (.inr ⟨z, List.mem_of_getElem? hz, s, by cases s <;> exact hq⟩)))
theorem RAdd.ins {v : Value} (h : RAdd w w0 g ad rs av ev_ id ops g4 k (rs2, av2, ev2)) (hc : Chg (fun q => q = g ∨ ev2.ownBlock = some q) w0 w') (hz : rs2[a]? = some z) (hT : RtAt w' g (ad ++ [id]) ((rs2 ++ [Rn.one ⟨false, id, (k : Int) + 1⟩ o.byte]).set a (z.more (rels rs2) o.left ⟨false, id, (k : Int) + 1⟩ v)) av2 ev3)
  (he : ∀ q, ev3.ownBlock = some q → ev2.ownBlock = some q ∨ w0.heap.size ≤ q) (hv : ∀ q, v.ownBlock = some q → w0.heap.size ≤ q) (ho : ops[k]? = some o) (ha : atE (rels rs2) (res id o.at_) = some a) (hk : o.kind = 1) :
  RAdd w w' g ad rs av ev_ id ops g4 (k + 1) ((rs2 ++ [Rn.one ⟨false, id, (k : Int) + 1⟩ o.byte]).set a (z.more (rels rs2) o.left ⟨false, id, (k : Int) + 1⟩ v), av2, ev3) := by
 have hsub : ∀ q, Rp g ((rs2 ++ [Rn.one ⟨false, id, (k : Int) + 1⟩ o.byte]).set a (z.more (rels rs2) o.left ⟨false, id, (k : Int) + 1⟩ v)) av2 ev3 q → Rp g rs2 av2 ev2 q ∨ w0.heap.size ≤ q := fun q hq => by
  rcases Rp.setR hq with hq | ⟨s, hq⟩
  ·
   rcases Rp.pushR (ev_ := ev2) hq with hq | hq | ⟨s, hq⟩
   ·
    exact .inl hq
   ·
    rcases he q hq with hq | hq
    ·
     exact .inl (.inr (.inr (.inl hq)))
    ·
     exact .inr hq
   ·
    cases s <;> simp [Rn.one, Rn.sv, Value.ownBlock] at hq
  ·
   have h2 : v.ownBlock = some q ∨ (z.sv s).ownBlock = some q := by
    revert hq
    unfold Rn.more Rn.sv
    cases s <;> cases o.left <;> intro hq <;> first | exact .inl hq | exact .inr hq
   rcases h2 with h2 | h2
   ·
    exact .inr (hv q h2)
   ·
    exact .inl (.inr (.inr (.inr ⟨z, List.mem_of_getElem? hz, s, h2⟩)))
 have hls := h.idb.lt
 exact {
  tree := hT
  els := by
   have he : rels rs2 = addN id ops (rels rs) k := h.els
   show rels _ = _
   rw [rels_more hz, addN_at ho, ← he, step_ins ha hk]
  chg := h.chg.stepO hc fun q hq => h.fresh q (by
   rcases hq with hq | hq
   ·
    exact .inl hq
   ·
    exact .inr (.inr (.inl hq)))
  fresh := fun q hq => by
   rcases hsub q hq with hq | hq
   ·
    exact h.fresh q hq
   ·
    have := h.chg.size; exact .inr (by omega)
  idb := h.idb.chg hc fun e => h.idn (by
   rcases e with hq | hq
   ·
    exact .inl hq
   ·
    exact .inr (.inr (.inl hq)))
  idn := fun hq => by
   rcases hsub g4 hq with hq | hq
   ·
    exact h.idn hq
   ·
    omega }
theorem kid_put {r : RefD} {b : UInt8} {l : List Nat} (hl : ∀ q ∈ l, q < rs2.length) : putN (fun q => nameLt (nm (rels (rs2 ++ [Rn.one r b])) rs2.length) (nm (rels (rs2 ++ [Rn.one r b])) q)) rs2.length l = kid (rels rs2) r l := by
 have hel : (rels rs2).length = rs2.length := List.length_map _
 rw [kid, hel]
 refine putN_congr fun q hq => ?_
 have h1 : nm (rels (rs2 ++ [Rn.one r b])) rs2.length = r := by
  rw [nm, List.getElem?_map, List.getElem?_append_right (Nat.le_refl _)]; simp [Rn.one]
 have h2 : nm (rels (rs2 ++ [Rn.one r b])) q = nm (rels rs2) q := by
  rw [nm, nm, List.getElem?_map, List.getElem?_append_left (hl q hq), ← List.getElem?_map]
 rw [h1, h2]
theorem good_kids {e : List El} {z : El} (hG : Fu.Good e) (hze : e[a]? = some z) (s : Bool) : (side z s).length ≤ e.length := by
 have hside : ∀ c ∈ side z s, c < e.length := fun c hcm => by
  have := hG.down a z hze c (by unfold side at hcm; cases s <;> first | exact .inr hcm | exact .inl hcm)
  omega
 have hsort : Srt (nms e (side z s)) := by
  have := hG.sort a z hze
  cases s
  ·
   exact this.2
  ·
   exact this.1
 have hnd : (side z s).Nodup := by
  have : (side z s).Pairwise fun x y => nameLt (nm e x) (nm e y) = true := List.pairwise_map.1 hsort
  exact this.imp fun {x y} hlt e => by rw [e, nlt_irrefl] at hlt; cases hlt
 have := sum_sub (fun _ => 1) (l := side z s) (m := List.range e.length) hnd fun c hc => List.mem_range.2 (hside c hc)
 have hcn : ∀ l : List Nat, (l.map fun _ => 1).sum = l.length := fun l => by
  induction l with
  | nil => rfl
  | cons x r ih => simp only [List.map_cons, List.sum_cons, ih, List.length_cons]; omega
 rwa [hcn, hcn, List.length_range] at this
theorem one_rC (r : RefD) (b : UInt8) : ∀ u ∈ rC (Rn.one r b), u.oneCell' = true := one_nodeC rfl rfl
end
abbrev UD8 := Tryz.underlying24
abbrev UE8 := Tryz.underlying60
set_option maxRecDepth 100000 in
set_option maxHeartbeats 4000000 in
theorem radd_any (g : Nat) (ad : List Dig) (rs : List Rn) (av ev_ : Value) (id : Dig) (u : Value) (ops : List OpD) (L : Coms) (w : World) (hR : RtAt w g ad rs av ev_) (hL : TreeOk L ⟨ad, rels rs⟩) (had : ad.length < 4398046511104) (hl : Sl w opC 37 u ops) (hb : ops ≠ [] → ∀ k, u.ownBlock = some k → k < w.heap.size ∧ ¬ Rp g rs av ev_ k) : Calls Tryz.prog 34 #[.pointer (some ⟨g, 0, none⟩), digV id, u] w (Ret fun v w' => v = .int .i64 (wrongC ⟨ad, rels rs⟩ id ops) ∧ ∃ rs' av' ev', RtAt w' g (addT ⟨ad, rels rs⟩ id ops).ad rs' av' ev' ∧ rels rs' = (addT ⟨ad, rels rs⟩ id ops).e ∧ Chg (Rp g rs av ev_) w w' ∧ ∀ q, Rp g rs' av' ev' q → Rp g rs av ev_ q ∨ w.heap.size ≤ q) := by
 have hlo : ∀ k, Rp g rs av ev_ k → k < w.heap.size := fun k hk => hR.lt hk
 have hav : ∀ k, av.ownBlock = some k → k < w.heap.size := fun k hk => hlo k (.inr (.inl hk))
 have hev : ∀ k, ev_.ownBlock = some k → k < w.heap.size := fun k hk => hlo k (.inr (.inr (.inl hk)))
 have hkv : ∀ x ∈ rs, ∀ s k, (x.sv s).ownBlock = some k → k < w.heap.size := fun x hx s k hk => hlo k (.inr (.inr (.inr ⟨x, hx, s, hk⟩)))
 have hg0 := hR.blk.lt
 have hG := hL.good
 have hel : (rels rs).length = rs.length := List.length_map _
 have hn : rs.length ≤ 400001 := by have := hL.few; have h2 : (rels rs).length ≤ 400001 := this; omega
 obtain ⟨A, m, c, rfl, hm, hmc, hcm, _⟩ := _root_.id hl
 unfold maxLen at hcm
 have hlo2 := hl
 have hRo := hR
 refine calls_of_CW 127 [6] [(0, .pointer (some ⟨g, 0, none⟩)), (1, digV id), (2, .slice A m c)] Tryz.func34 rfl rfl rfl (by simp) args3 ?_
 have hE : Ext w w := Chg.refl
 refine CW.sr fun K1 hK1 => ?_
 refine WL.box rfl rfl (by decide) fun g4 w1 hx1 hg4 hB4 => ?_
 have hlt4 := hB4.lt; have hz1 := hx1.size
 have hM4 := hB4.mem; have hz1 := hx1.size; have hE := hE.thenExt hx1
 refine WL.a rfl ?_
 refine WL.nil (hK1 _ _ ?_); try clear hK1 K1
 refine CW.sr fun K2 hK2 => ?_
 refine WL.m rfl ?_
 refine WL.v (Y.load Tryz.underlying43 rfl hB4.mem (sz_apiDigest _) rfl) ?_
 refine WL.m rfl ?_
 refine WL.call Tryz.func54 rfl rfl rfl (rwrong_any g ad rs av ev_ id _ ops _ (hRo.ext hE) hn (hlo2.ext hE)) (by simp) ?_; rintro v w2 ⟨rfl, hx2⟩; have hz2 := hx2.size; have hE := hE.thenExt hx2; have hB4 := hB4.ext hx2
 refine WL.a rfl ?_
 refine WL.nil (hK2 _ _ ?_); try clear hK2 K2
 refine CW.seq fun K3 hK3 => ?_
 refine CW.sr fun K4 hK4 => ?_
 refine WL.m rfl ?_
 refine WL.v (Y.neq rfl rfl) ?_
 refine WL.nil (hK4 _ _ ?_); try clear hK4 K4
 (first | refine CW.condD rfl ?_ ?_ | refine CW.condND rfl ?_ ?_ | refine CW.condN rfl ?_ ?_ | refine CW.cond rfl ?_ ?_) <;> intro ht5
 ·
  -- then
  refine CW.sr fun K6 hK6 => ?_
  refine WL.m rfl ?_
  refine WL.a rfl ?_
  refine WL.nil (hK6 _ _ ?_); try clear hK6 K6
  refine CW.ret ⟨_, rfl, ?_⟩
  exact ⟨rfl, rs, av, ev_, by rw [addT, if_neg (by assumption)]; exact hRo.ext hE, by rw [addT, if_neg (by assumption)], Ext.chg hE, fun q hq => .inl hq⟩
 refine CW.skip ?_
 refine hK3 _ _ ?_; try clear hK3 K3
 have hw0 : wrongC ⟨ad, rels rs⟩ id ops = 0 := Decidable.not_not.1 (by assumption)
 obtain ⟨hnid, hl2, hcnt, hwn⟩ := wrongC_zero hw0
 have hcnt : insN ops + (rs.length - 1) ≤ 400000 := by rw [← hel]; exact hcnt
 have hidL : id ∉ L.map (·.1) := by have := hL.ads; rw [← show ad = L.map (·.1) from this]; exact hnid
 refine CW.seq_to (X := Value) (fun v => [(0, .pointer (some ⟨g, 0, none⟩)), (2, .slice A m c), (4, .pointer (some ⟨g4, 0, none⟩))]) (fun v w0 => RAdd w w0 g ad rs av ev_ id ops g4 0 (rs, v, ev_)) ?_ ?_
 ·
  skip
  refine CW.held (fun wq => Chg (fun q => q = g ∨ av.ownBlock = some q) w2 wq) (by kernel_rfl) 11 rfl fun w3 hx3 => ?_
  have hS : Chg (fun q => q = g ∨ av.ownBlock = some q) w2 w3 := Ext.chg hx3
  have hz3 := hx3.size
  have hE := hE.thenExt hx3
  have hB43 := hB4.ext hx3
  have h4n : ¬ (g4 = g ∨ av.ownBlock = some g4) := fun h => by
   rcases h with h | h
   ·
    omega
   ·
    have := hav _ h; omega
  refine RH.tk 0 hS rfl (fun wq hq => Y.move rfl) ?_
  refine RH.tk 1 hS rfl (fun wq hq => Y.move rfl) ?_
  refine RH.tk 2 hS rfl (fun wq hq => Y.nilCheck rfl) ?_
  refine RH.tk 3 hS rfl (fun wq hq => Y.fieldAddr fo_recensionref08Tree0 rfl) ?_
  refine RH.tk 5 hS rfl (fun wq hq => Y.load Tryz.underlying43 rfl (hB4.chg hq h4n).mem (sz_apiDigest _) rfl) ?_
  refine RH.two 4 6 (by kernel_rfl) ?_ ?_
  ·
   skip
   refine RS.val rfl (Y.load1 Tryz.underlying24 rfl ((hRo.ext hE).blk.mem.recensionref08Tree0) rfl) (by decide) ⟨hS, ?_⟩
   refine RH.one 6 (by kernel_rfl) ?_
   refine RS.st rfl (St.buildSlice rfl (bs1_dig id)) (by decide) fun v25 w4 hR4 => ?_
   obtain ⟨g25, rfl, hg25, hB25, hx4⟩ := hR4
   have hz4 := hx4.size
   have hE4 : Ext w w4 := hE.thenExt hx4
   have hB4 := hB43.ext hx4
   have hS : Chg (fun q => q = g ∨ av.ownBlock = some q) w2 w4 := hS.thenExt hx4
   refine ⟨hS, ?_⟩
   refine RH.one 7 (by kernel_rfl) ?_
   refine RS.st rfl (St.append (m := 1) (news := digC id) UD8 UD8 ai_dig rfl rfl (hRo.ext hE4).ads (Fw.Src.one hB25 (digC_length id)) one_digC (by rw [flat_length digC_length]; omega)) (by decide) fun v26 w5 hR5 => ?_
   obtain ⟨hO5, hc5, hf5⟩ := hR5
   have hz5 := hc5.size
   obtain ⟨A5, m5, c5, rfl⟩ := hO5.lens
   have hB4 := hB4.chg hc5 (fun h => by have := hav _ h; omega)
   have hS : Chg (fun q => q = g ∨ av.ownBlock = some q) w2 w5 := hS.trans hc5 (fun q _ h => .inr h)
   refine ⟨hS, ?_⟩
   refine RH.tk 8 hS rfl (fun wq hq => Y.nilCheck rfl) ?_
   refine RH.tk 9 hS rfl (fun wq hq => Y.fieldAddr fo_recensionref08Tree0 rfl) ?_
   refine RH.one 10 (by kernel_rfl) ?_
   refine RS.store rfl (g := g) (pre := []) (old := [av]) (post := [ev_]) (new := [.slice A5 m5 c5]) rfl rfl rfl rfl (by kernel_rfl) ((hRo.ext hE4).blk.chg hc5 (fun h => (hRo.ne.1 g h).1 rfl)) rfl (one1 rfl) (fun w6 hc6 hB6_ => ?_)
   have hB4 := hB4.chg hc6 (fun h => by omega)
   have hS : Chg (fun q => q = g ∨ av.ownBlock = some q) w2 w6 := hS.trans hc6 (fun q _ h => .inl h)
   have hz6 := hc6.size
   have hC6 : Chg (fun q => q = g ∨ av.ownBlock = some q) w w6 := ((Ext.chg hE4).trans hc5 (fun q _ h => .inr h)).trans hc6 (fun q _ h => .inl h)
   have hO6 : Own w6 TD8 32 (.slice A5 m5 c5) (flatD (ad ++ [id])) := by
    have h9 := hO5.chg hc6 (fun q hq e => by
     rcases hf5 with h | h
     ·
      rw [h] at hq; exact (hRo.ne.1 q hq).1 e
     ·
      have := h q hq; omega)
    simpa [flatD] using h9
   have hf6 : ∀ q, (Value.slice A5 m5 c5).ownBlock = some q → av.ownBlock = some q ∨ w4.heap.size ≤ q := fun q hq => by
    rcases hf5 with h | h
    ·
     rw [h] at hq; exact .inl hq
    ·
     exact .inr (h q hq)
   have hA : RAdd w w6 g ad rs av ev_ id ops g4 0 (rs, .slice A5 m5 c5, ev_) := {
    tree := hRo.setAds hC6 (fun q h => h) hB6_ hO6
    els := rfl
    chg := hC6.mono fun q _ h => by
     rcases h with h | h
     ·
      exact .inl h
     ·
      exact .inr (.inl h)
    fresh := fun q hq => by
     rcases hq with h | h | h
     ·
      exact .inl (.inl h)
     ·
      rcases hf6 q h with h | h
      ·
       exact .inl (.inr (.inl h))
      ·
       exact .inr (by omega)
     ·
      exact .inl (.inr (.inr h))
    idb := hB4
    idn := fun hq => by
     rcases hq with h | h | h | ⟨x, hx, s, h⟩
     ·
      omega
     ·
      rcases hf6 _ h with h | h
      ·
       have := hav _ h; omega
      ·
       omega
     ·
      have := hev _ h; omega
     ·
      have := hkv x hx s _ h; omega }
   refine ⟨hS, ?_⟩
   refine RH.done (by kernel_rfl) ?_
   skip
   exact ⟨.slice A5 m5 c5, Fr.ok, hA⟩
  ·
   skip
   refine RS.st rfl (St.buildSlice rfl (bs1_dig id)) (by decide) fun v25 w7 hR7 => ?_
   obtain ⟨g25, rfl, hg25, hB25, hx4⟩ := hR7
   have hz4 := hx4.size
   have hE4 : Ext w w7 := hE.thenExt hx4
   have hB4 := hB43.ext hx4
   have hS : Chg (fun q => q = g ∨ av.ownBlock = some q) w2 w7 := hS.thenExt hx4
   refine ⟨hS, ?_⟩
   refine RH.one 4 (by kernel_rfl) ?_
   refine RS.val rfl (Y.load1 Tryz.underlying24 rfl ((hRo.ext hE4).blk.mem.recensionref08Tree0) rfl) (by decide) ⟨hS, ?_⟩
   refine RH.one 7 (by kernel_rfl) ?_
   refine RS.st rfl (St.append (m := 1) (news := digC id) UD8 UD8 ai_dig rfl rfl (hRo.ext hE4).ads (Fw.Src.one hB25 (digC_length id)) one_digC (by rw [flat_length digC_length]; omega)) (by decide) fun v26 w8 hR8 => ?_
   obtain ⟨hO5, hc5, hf5⟩ := hR8
   have hz5 := hc5.size
   obtain ⟨A5, m5, c5, rfl⟩ := hO5.lens
   have hB4 := hB4.chg hc5 (fun h => by have := hav _ h; omega)
   have hS : Chg (fun q => q = g ∨ av.ownBlock = some q) w2 w8 := hS.trans hc5 (fun q _ h => .inr h)
   refine ⟨hS, ?_⟩
   refine RH.tk 8 hS rfl (fun wq hq => Y.nilCheck rfl) ?_
   refine RH.tk 9 hS rfl (fun wq hq => Y.fieldAddr fo_recensionref08Tree0 rfl) ?_
   refine RH.one 10 (by kernel_rfl) ?_
   refine RS.store rfl (g := g) (pre := []) (old := [av]) (post := [ev_]) (new := [.slice A5 m5 c5]) rfl rfl rfl rfl (by kernel_rfl) ((hRo.ext hE4).blk.chg hc5 (fun h => (hRo.ne.1 g h).1 rfl)) rfl (one1 rfl) (fun w9 hc9 hB9_ => ?_)
   have hB4 := hB4.chg hc9 (fun h => by omega)
   have hS : Chg (fun q => q = g ∨ av.ownBlock = some q) w2 w9 := hS.trans hc9 (fun q _ h => .inl h)
   have hz6 := hc9.size
   have hC6 : Chg (fun q => q = g ∨ av.ownBlock = some q) w w9 := ((Ext.chg hE4).trans hc5 (fun q _ h => .inr h)).trans hc9 (fun q _ h => .inl h)
   have hO6 : Own w9 TD8 32 (.slice A5 m5 c5) (flatD (ad ++ [id])) := by
    have h9 := hO5.chg hc9 (fun q hq e => by
     rcases hf5 with h | h
     ·
      rw [h] at hq; exact (hRo.ne.1 q hq).1 e
     ·
      have := h q hq; omega)
    simpa [flatD] using h9
   have hf6 : ∀ q, (Value.slice A5 m5 c5).ownBlock = some q → av.ownBlock = some q ∨ w7.heap.size ≤ q := fun q hq => by
    rcases hf5 with h | h
    ·
     rw [h] at hq; exact .inl hq
    ·
     exact .inr (h q hq)
   have hA : RAdd w w9 g ad rs av ev_ id ops g4 0 (rs, .slice A5 m5 c5, ev_) := {
    tree := hRo.setAds hC6 (fun q h => h) hB9_ hO6
    els := rfl
    chg := hC6.mono fun q _ h => by
     rcases h with h | h
     ·
      exact .inl h
     ·
      exact .inr (.inl h)
    fresh := fun q hq => by
     rcases hq with h | h | h
     ·
      exact .inl (.inl h)
     ·
      rcases hf6 q h with h | h
      ·
       exact .inl (.inr (.inl h))
      ·
       exact .inr (by omega)
     ·
      exact .inl (.inr (.inr h))
    idb := hB4
    idn := fun hq => by
     rcases hq with h | h | h | ⟨x, hx, s, h⟩
     ·
      omega
     ·
      rcases hf6 _ h with h | h
      ·
       have := hav _ h; omega
      ·
       omega
     ·
      have := hev _ h; omega
     ·
      have := hkv x hx s _ h; omega }
   refine ⟨hS, ?_⟩
   refine RH.done (by kernel_rfl) ?_
   skip
   exact ⟨.slice A5 m5 c5, Fr.ok, hA⟩
 rintro u w10 hj10
 have hA := hj10
 refine CW.seq fun K7 hK7 => ?_
 refine CW.sr fun K8 hK8 => ?_
 refine WL.a rfl ?_
 refine WL.nil (hK8 _ _ ?_); try clear hK8 K8
 refine CW.block ?_
 refine CW.loop (X := Nat × List Rn × Value × Value) (fun x => [(0, .pointer (some ⟨g, 0, none⟩)), (2, .slice A m c), (4, .pointer (some ⟨g4, 0, none⟩)), (8, .int .i64 (x.1 : Int))]) (fun x w0 => x.1 ≤ m ∧ RAdd w w0 g ad rs av ev_ id ops g4 x.1 x.2) (fun x => m - x.1) (0, rs, u, ev_) Fr.ok ⟨Nat.zero_le _, hA⟩ ?_
 intro x w11 hl11
 obtain ⟨k, rs2, av2, ev2⟩ := x
 dsimp only at hl11 ⊢
 obtain ⟨hkm, hA⟩ := hl11
 have hT2 : RtAt w11 g (ad ++ [id]) rs2 av2 ev2 := hA.tree
 have hE : Ext w11 w11 := Chg.refl
 have hz07 := hA.chg.size
 have hB4 := hA.idb
 have hg4b := hB4.lt
 have hlk := hlo2.chgN hA.chg (fun h0 q hq => (hb h0 q hq).2)
 obtain ⟨hG2, hB2, hn2⟩ := add_upto hG hL.built hidL hl2 hwn k (by omega)
 have hels : rels rs2 = addN id ops (rels rs) k := hA.els
 have hG2' : Fu.Good (rels rs2) := by rw [hels]; exact hG2
 have hel2 : (rels rs2).length = rs2.length := List.length_map _
 have hn2' : rs2.length = rs.length + insN (ops.take k) := by rw [← hel2, hels, hn2, hel]
 have hpos := hG.pos
 rw [hel] at hpos
 have hn3 : rs2.length ≤ 400001 := by
  have h1 : insN (ops.take k) ≤ insN ops := List.Sublist.countP_le (List.take_sublist k ops)
  omega
 refine CW.seq fun K9 hK9 => ?_
 refine CW.sr fun K10 hK10 => ?_
 refine WL.m rfl ?_
 refine WL.m rfl ?_
 refine WL.v (Y.len_slice Tryz.underlying46 rfl) ?_
 refine WL.v (Y.lss rfl rfl) ?_
 refine WL.nil (hK10 _ _ ?_); try clear hK10 K10
 (first | refine CW.condD rfl ?_ ?_ | refine CW.condND rfl ?_ ?_ | refine CW.condN rfl ?_ ?_ | refine CW.cond rfl ?_ ?_) <;> intro ht11
 ·
  -- then
  refine CW.skip ?_
  refine hK9 _ _ ?_; try clear hK9 K9
  obtain ⟨o, ho⟩ : ∃ o, ops[k]? = some o := ⟨_, List.getElem?_eq_getElem (by omega)⟩
  obtain ⟨aa, rfl, hma⟩ := hlk.get ho
  have hwo := wrongN_get hwn ho
  have hRO := right_op ho (wrongAt_zero hwo).1
  obtain ⟨a, ha⟩ : ∃ a, atE (rels rs2) (res id o.at_) = some a := by rw [hels]; exact old_name hL.built hB2 ho hwo
  have hal := atE_lt ha
  rw [List.length_map] at hal
  obtain ⟨z, hz⟩ : ∃ z, rs2[a]? = some z := ⟨_, List.getElem?_eq_getElem hal⟩
  have hzm := List.mem_of_getElem? hz
  have hfv : findV (rels rs2) (res id o.at_) = (a : Int) := by rw [findV, ha]
  obtain ⟨EA, em, ec, rfl⟩ := hT2.es.lens
  obtain ⟨gE, rfl⟩ := hT2.es.blk (by rw [rflat_get hz]; simp [rC, nodeC])
  obtain ⟨hem, hec⟩ : rs2.length = em ∧ em ≤ ec := by
   obtain ⟨A', m', c', e, h1, h2, _⟩ := hT2.sl
   injection e with e1 e2 e3
   exact ⟨by omega, by omega⟩
  subst hem
  have hgE : (Value.slice (some ⟨gE, 0, none⟩) rs2.length ec).ownBlock = some gE := rfl
  have hze : (rels rs2)[a]? = some z.el := by rw [List.getElem?_map, hz]; rfl
  have hside : ∀ s, ∀ q ∈ side z.el s, q < rs2.length := fun s q hq => by
   have := hG2'.down a z.el hze q (by unfold side at hq; cases s <;> first | exact .inr hq | exact .inl hq)
   have h2 : (rels rs2).length = rs2.length := List.length_map _
   omega
  refine CW.seq_to (X := List Rn × Value × Value) (fun _ => [(0, .pointer (some ⟨g, 0, none⟩)), (2, .slice (some aa) m c), (4, .pointer (some ⟨g4, 0, none⟩)), (8, .int .i64 (k : Int))]) (fun t w0 => RAdd w w0 g ad rs av ev_ id ops g4 (k + 1) t) ?_ ?_
  ·
   skip
   refine CW.block ?_
   refine CW.sr fun K13 hK13 => ?_
   refine WL.m rfl ?_
   refine WL.m rfl ?_
   refine WL.v (Y.indexAddrN Tryz.underlying46 rfl rfl sz0_apiOp (by omega)) ?_
   refine WL.v (Y.fieldAddr fo_apiOp2 rfl) ?_
   refine WL.v (Y.load Tryz.underlying68 rfl hma.op2 (sz_apiRef _) rfl) ?_
   refine as_apiRef rfl (by simp) (by decide) fun g9 w12 hx12 hg9 hB9 => ?_
   have hlt9 := hB9.lt; have hz12 := hx12.size
   have hM9 := hB9.mem; have hz12 := hx12.size; have hE := hE.thenExt hx12; have hB4 := hB4.ext hx12
   refine WL.nil (hK13 _ _ ?_); try clear hK13 K13
   refine CW.seq_to (X := Unit) (fun _ => [(0, .pointer (some ⟨g, 0, none⟩)), (9, .pointer (some ⟨g9, 0, none⟩)), (2, .slice (some aa) m c), (4, .pointer (some ⟨g4, 0, none⟩)), (8, .int .i64 (k : Int))]) (fun _ w0 => Ext w11 w0 ∧ Blk w0 g9 68 (refC (res id o.at_))) ?_ ?_
   ·
    skip
    refine CW.sr fun K15 hK15 => ?_
    refine WL.v (Y.fieldAddr fo_apiRef0 rfl) ?_
    refine WL.v (Y.load1 Tryz.underlying4 rfl hB9.mem.ref0 rfl) ?_
    refine WL.nil (hK15 _ _ ?_); try clear hK15 K15
    (first | refine CW.condD rfl ?_ ?_ | refine CW.condND rfl ?_ ?_ | refine CW.condN rfl ?_ ?_ | refine CW.cond rfl ?_ ?_) <;> intro ht16
    ·
     -- then
     refine CW.region ?_
     refine WL.v (Y.load Tryz.underlying43 rfl hB4.mem (sz_apiDigest _) rfl) ?_
     refine WL.v (Y.fieldAddr fo_apiRef2 rfl) ?_
     refine WL.v (Y.load1 Tryz.underlying3 rfl hB9.mem.ref2 rfl) ?_
     refine WL.v (Y.build rfl (build_ref2 _ _ _)) ?_
     refine WL.store (g := g9) (pre := []) (old := refC o.at_) (post := []) (new := refC ⟨false, id, o.at_.n⟩) rfl rfl rfl rfl (sz_apiRef _) (by simpa using hB9) (by simp only [refC_length]) (one_refC) (fun w13 hc13 hB13_ => ?_)
     have hz13 := hc13.size; have hE := hE.step hc13 (fun k h => by omega); have hB4 := hB4.chg hc13 (fun h => by omega)
     skip
     refine WL.nil ?_
     exact ⟨(), Fr.ok, hE, (by rw [res, if_pos (by simp_all)]; simpa using hB13_)⟩
    refine CW.skip ?_
    exact ⟨(), Fr.ok, hE, (by rw [res, if_neg (by simp_all)]; exact hB9)⟩
   rintro u w14 hj14
   obtain ⟨hE, hB9⟩ := hj14
   have hz14 := hE.size
   have hB4 := hA.idb.ext hE
   refine CW.sr fun K17 hK17 => ?_
   refine WL.m rfl ?_
   refine WL.v (Y.load Tryz.underlying68 rfl hB9.mem (sz_apiRef _) rfl) ?_
   refine WL.call Tryz.func55 rfl rfl rfl (rfind_any g (ad ++ [id]) rs2 av2 _ (res id o.at_) _ (hT2.ext hE) hn3) (by simp) ?_; rintro v w15 ⟨rfl, hx15⟩; have hz15 := hx15.size; have hE := hE.thenExt hx15; have hB4 := hB4.ext hx15; have hB9 := hB9.ext hx15
   rw [hfv]
   refine WL.a rfl ?_
   refine WL.nil (hK17 _ _ ?_); try clear hK17 K17
   refine CW.seq fun K18 hK18 => ?_
   refine CW.sr fun K19 hK19 => ?_
   refine WL.m rfl ?_
   refine WL.m rfl ?_
   refine WL.v (Y.indexAddrN Tryz.underlying46 rfl rfl sz0_apiOp (by omega)) ?_
   refine WL.v (Y.fieldAddr fo_apiOp0 rfl) ?_
   refine WL.v (Y.load1 Tryz.underlying3 rfl ((hma.ext hE).op0) rfl) ?_
   refine WL.v (Y.eql rfl rfl) ?_
   refine WL.nil (hK19 _ _ ?_); try clear hK19 K19
   (first | refine CW.condD rfl ?_ ?_ | refine CW.condND rfl ?_ ?_ | refine CW.condN rfl ?_ ?_ | refine CW.cond rfl ?_ ?_) <;> intro ht20
   ·
    -- then
    refine CW.sr fun K21 hK21 => ?_
    refine WL.m rfl ?_
    refine WL.v (Y.nilCheck rfl) ?_
    refine WL.v (Y.fieldAddr fo_recensionref08Tree1 rfl) ?_
    refine WL.v (Y.load1 Tryz.underlying60 rfl ((hT2.ext hE).blk.mem.recensionref08Tree1) rfl) ?_
    refine WL.m rfl ?_
    refine WL.v (Y.indexAddrN Tryz.underlying60 rfl rfl sz0_recensionref08Elem (by omega)) ?_
    refine WL.v (Y.fieldAddr fo_recensionref08Elem2 rfl) ?_
    refine WL.storeO (g := gE) (pre := ((rs2.take a).map rC).flatten ++ (refC z.el.name ++ [bc z.el.byte])) (old := [.bool z.el.gone]) (post := [z.lv, z.rv] ++ ((rs2.drop (a + 1)).map rC).flatten) (new := [.bool true]) rfl (by rw [add_zero', List.length_append, rflat_len (by omega), List.length_append, refC_length]; rfl) rfl rfl sz_bool (by have h9 := (hT2.ext hE).es; rw [rflat_get hz] at h9; simpa [rC, nodeC] using h9) rfl (one1 rfl) (fun w16 hc16 hB16_ => ?_)
    have hz16 := hc16.size
    skip
    refine WL.nil (hK21 _ _ ?_); try clear hK21 K21
    refine CW.exit ?_
    have hO12 : Own w16 TE8 38 (.slice (some ⟨gE, 0, none⟩) rs2.length ec) (((rs2.set a z.die).map rC).flatten) := by
     rw [rflat_set _ hz]
     simpa [rC, nodeC, Rn.die] using hB16_
    exact ⟨(_, av2, _), Fr.ok, hA.del hE hc16 hgE hz hO12 ho ha (by assumption)⟩
   refine CW.skip ?_
   refine hK18 _ _ ?_; try clear hK18 K18
   refine CW.sr fun K22 hK22 => ?_
   refine WL.m rfl ?_
   refine WL.v (Y.nilCheck rfl) ?_
   refine WL.v (Y.fieldAddr fo_recensionref08Tree1 rfl) ?_
   refine WL.v (Y.load1 Tryz.underlying60 rfl ((hT2.ext hE).blk.mem.recensionref08Tree1) rfl) ?_
   refine WL.v (Y.len_slice Tryz.underlying60 rfl) ?_
   refine WL.a rfl ?_
   refine WL.nil (hK22 _ _ ?_); try clear hK22 K22
   refine CW.seq_to (X := Value) (fun v => [(0, .pointer (some ⟨g, 0, none⟩)), (9, .pointer (some ⟨g9, 0, none⟩)), (10, .int .i64 (a : Int)), (11, .int .i64 (rs2.length : Int)), (2, .slice (some aa) m c), (4, .pointer (some ⟨g4, 0, none⟩)), (8, .int .i64 (k : Int))]) (fun v w0 => RtAt w0 g (ad ++ [id]) (rs2 ++ [(Rn.one ⟨false, id, (k : Int) + 1⟩ o.byte)]) av2 v ∧ Chg (fun q => q = g ∨ (Value.slice (some ⟨gE, 0, none⟩) rs2.length ec).ownBlock = some q) w11 w0 ∧ ∀ q, v.ownBlock = some q → (Value.slice (some ⟨gE, 0, none⟩) rs2.length ec).ownBlock = some q ∨ w11.heap.size ≤ q) ?_ ?_
   ·
    skip
    refine CW.held (fun wq => Chg (fun q => q = g ∨ (Value.slice (some ⟨gE, 0, none⟩) rs2.length ec).ownBlock = some q) w15 wq) (by kernel_rfl) 20 rfl fun w17 hx17 => ?_
    have hS : Chg (fun q => q = g ∨ (Value.slice (some ⟨gE, 0, none⟩) rs2.length ec).ownBlock = some q) w15 w17 := Ext.chg hx17
    have hz17 := hx17.size
    have hEb : Ext w11 w17 := hE.thenExt hx17
    have h4n : ¬ (g4 = g ∨ (Value.slice (some ⟨gE, 0, none⟩) rs2.length ec).ownBlock = some g4) := fun h => hA.idn (by
     rcases h with h | h
     ·
      exact .inl h
     ·
      exact .inr (.inr (.inl h)))
    have hmq : ∀ wq, Chg (fun q => q = g ∨ (Value.slice (some ⟨gE, 0, none⟩) rs2.length ec).ownBlock = some q) w15 wq → Mem wq (aa.add (k * 37)) (opC o) := fun wq hq => by
     have hCw : Chg (Rp g rs av ev_) w wq := hA.chg.stepO ((Ext.chg hE).trans hq (fun q _ h => h)) (fun q hq => hA.fresh q (by
      rcases hq with h | h
      ·
       exact .inl h
      ·
       exact .inr (.inr (.inl h))))
     obtain ⟨aa2, haa, hm2⟩ := (hlo2.chgN hCw (fun h0 q hq => (hb h0 q hq).2)).get ho
     obtain rfl := Option.some.inj haa
     exact hm2
    refine RH.tk 0 hS rfl (fun wq hq => Y.move rfl) ?_
    refine RH.tk 1 hS rfl (fun wq hq => Y.move rfl) ?_
    refine RH.tk 2 hS rfl (fun wq hq => Y.nilCheck rfl) ?_
    refine RH.tk 3 hS rfl (fun wq hq => Y.fieldAddr fo_recensionref08Tree1 rfl) ?_
    refine RH.tk 5 hS rfl (fun wq hq => Y.load Tryz.underlying43 rfl (hB4.chg hq h4n).mem (sz_apiDigest _) rfl) ?_
    refine RH.tk 6 hS rfl (fun wq hq => Y.move rfl) ?_
    refine RH.tk 7 hS rfl (fun wq hq => Y.add rfl rfl ⟨by omega, by omega⟩) ?_
    refine RH.tk 8 hS rfl (fun wq hq => Y.build rfl (build_ref2 _ _ _)) ?_
    refine RH.tk 9 hS rfl (fun wq hq => Y.move rfl) ?_
    refine RH.tk 10 hS rfl (fun wq hq => Y.move rfl) ?_
    refine RH.tk 11 hS rfl (fun wq hq => Y.indexAddrN Tryz.underlying46 rfl rfl sz0_apiOp (by omega)) ?_
    refine RH.tk 12 hS rfl (fun wq hq => Y.fieldAddr fo_apiOp3 rfl) ?_
    refine RH.tk 13 hS rfl (fun wq hq => Y.load1 Tryz.underlying5 rfl ((hmq wq hq).op3) rfl) ?_
    refine RH.tk 14 hS rfl (fun wq hq => Y.build rfl (build_elem _ _ _)) ?_
    refine RH.two 4 15 (by kernel_rfl) ?_ ?_
    ·
     skip
     refine RS.val rfl (Y.load1 Tryz.underlying60 rfl ((hT2.ext hEb).blk.mem.recensionref08Tree1) rfl) (by decide) ⟨hS, ?_⟩
     refine RH.one 15 (by kernel_rfl) ?_
     refine RS.st rfl (St.buildSlice rfl (bs1_elem (Rn.one ⟨false, id, (k : Int) + 1⟩ o.byte))) (by decide) fun v82 w18 hR18 => ?_
     obtain ⟨g82, rfl, hg82, hB82, hx14⟩ := hR18
     have hz14 := hx14.size
     have hE14 : Ext w11 w18 := hEb.thenExt hx14
     have hS : Chg (fun q => q = g ∨ (Value.slice (some ⟨gE, 0, none⟩) rs2.length ec).ownBlock = some q) w15 w18 := hS.thenExt hx14
     refine ⟨hS, ?_⟩
     refine RH.one 16 (by kernel_rfl) ?_
     refine RS.st rfl (St.append (m := 1) (news := rC (Rn.one ⟨false, id, (k : Int) + 1⟩ o.byte)) UE8 UE8 ai_elem rfl rfl (hT2.ext hE14).es (Fw.Src.one hB82 (rC_length _)) (one_rC _ _) (by rw [flat_length rC_length]; omega)) (by decide) fun v83 w19 hR19 => ?_
     obtain ⟨hO15, hc15, hf15⟩ := hR19
     have hz15 := hc15.size
     have hS : Chg (fun q => q = g ∨ (Value.slice (some ⟨gE, 0, none⟩) rs2.length ec).ownBlock = some q) w15 w19 := hS.trans hc15 (fun q _ h => .inr h)
     obtain ⟨EA3, em3, ec3, rfl⟩ := hO15.lens
     obtain ⟨gE3, rfl⟩ := hO15.blk (by simp [rC, nodeC])
     have hO15' : Own w19 TE8 38 (.slice (some ⟨gE3, 0, none⟩) em3 ec3) (((rs2 ++ [(Rn.one ⟨false, id, (k : Int) + 1⟩ o.byte)]).map rC).flatten) := by simpa using hO15
     refine ⟨hS, ?_⟩
     refine RH.tk 17 hS rfl (fun wq hq => Y.nilCheck rfl) ?_
     refine RH.tk 18 hS rfl (fun wq hq => Y.fieldAddr fo_recensionref08Tree1 rfl) ?_
     refine RH.one 19 (by kernel_rfl) ?_
     refine RS.store rfl (g := g) (pre := [av2]) (old := [.slice (some ⟨gE, 0, none⟩) rs2.length ec]) (post := []) (new := [.slice (some ⟨gE3, 0, none⟩) em3 ec3]) rfl rfl rfl rfl (by kernel_rfl) ((hT2.ext hE14).blk.chg hc15 (fun h => hT2.ne.2.1 g h rfl)) rfl (one1 rfl) (fun w20 hc20 hB20_ => ?_)
     have hS : Chg (fun q => q = g ∨ (Value.slice (some ⟨gE, 0, none⟩) rs2.length ec).ownBlock = some q) w15 w20 := hS.trans hc20 (fun q _ h => .inl h)
     have hzE := hE14.size
     have hgg := hT2.blk.lt
     have hEo : ∀ q, (Value.slice (some ⟨gE3, 0, none⟩) em3 ec3).ownBlock = some q → (Value.slice (some ⟨gE, 0, none⟩) rs2.length ec).ownBlock = some q ∨ w11.heap.size ≤ q := fun q hq => by
      rcases hf15 with h | h
      ·
       rw [h] at hq; exact .inl hq
      ·
       exact .inr (by have := h q hq; omega)
     have hg3 : g ≠ gE3 := fun e => by
      rcases hEo gE3 rfl with h | h
      ·
       exact hT2.ne.2.1 gE3 h e.symm
      ·
       omega
     have hC16 : Chg (fun q => q = g ∨ (Value.slice (some ⟨gE, 0, none⟩) rs2.length ec).ownBlock = some q) w11 w20 := ((Ext.chg hE14).trans hc15 (fun q _ h => .inr h)).trans hc20 (fun q _ h => .inl h)
     have hO16 := hO15'.chg hc20 (fun q hq e => by
      injection hq with hq
      have hq : gE3 = q := hq
      omega)
     have hT3 := hT2.push (y := (Rn.one ⟨false, id, (k : Int) + 1⟩ o.byte)) hC16 (fun q h => h) hB20_ hO16 (fun s => by cases s <;> exact Own.nil)
     refine ⟨hS, ?_⟩
     refine RH.done (by kernel_rfl) ?_
     skip
     exact ⟨.slice (some ⟨gE3, 0, none⟩) em3 ec3, Fr.ok, hT3, hC16, hEo⟩
    ·
     skip
     refine RS.st rfl (St.buildSlice rfl (bs1_elem (Rn.one ⟨false, id, (k : Int) + 1⟩ o.byte))) (by decide) fun v82 w21 hR21 => ?_
     obtain ⟨g82, rfl, hg82, hB82, hx14⟩ := hR21
     have hz14 := hx14.size
     have hE14 : Ext w11 w21 := hEb.thenExt hx14
     have hS : Chg (fun q => q = g ∨ (Value.slice (some ⟨gE, 0, none⟩) rs2.length ec).ownBlock = some q) w15 w21 := hS.thenExt hx14
     refine ⟨hS, ?_⟩
     refine RH.one 4 (by kernel_rfl) ?_
     refine RS.val rfl (Y.load1 Tryz.underlying60 rfl ((hT2.ext hE14).blk.mem.recensionref08Tree1) rfl) (by decide) ⟨hS, ?_⟩
     refine RH.one 16 (by kernel_rfl) ?_
     refine RS.st rfl (St.append (m := 1) (news := rC (Rn.one ⟨false, id, (k : Int) + 1⟩ o.byte)) UE8 UE8 ai_elem rfl rfl (hT2.ext hE14).es (Fw.Src.one hB82 (rC_length _)) (one_rC _ _) (by rw [flat_length rC_length]; omega)) (by decide) fun v83 w22 hR22 => ?_
     obtain ⟨hO15, hc15, hf15⟩ := hR22
     have hz15 := hc15.size
     have hS : Chg (fun q => q = g ∨ (Value.slice (some ⟨gE, 0, none⟩) rs2.length ec).ownBlock = some q) w15 w22 := hS.trans hc15 (fun q _ h => .inr h)
     obtain ⟨EA3, em3, ec3, rfl⟩ := hO15.lens
     obtain ⟨gE3, rfl⟩ := hO15.blk (by simp [rC, nodeC])
     have hO15' : Own w22 TE8 38 (.slice (some ⟨gE3, 0, none⟩) em3 ec3) (((rs2 ++ [(Rn.one ⟨false, id, (k : Int) + 1⟩ o.byte)]).map rC).flatten) := by simpa using hO15
     refine ⟨hS, ?_⟩
     refine RH.tk 17 hS rfl (fun wq hq => Y.nilCheck rfl) ?_
     refine RH.tk 18 hS rfl (fun wq hq => Y.fieldAddr fo_recensionref08Tree1 rfl) ?_
     refine RH.one 19 (by kernel_rfl) ?_
     refine RS.store rfl (g := g) (pre := [av2]) (old := [.slice (some ⟨gE, 0, none⟩) rs2.length ec]) (post := []) (new := [.slice (some ⟨gE3, 0, none⟩) em3 ec3]) rfl rfl rfl rfl (by kernel_rfl) ((hT2.ext hE14).blk.chg hc15 (fun h => hT2.ne.2.1 g h rfl)) rfl (one1 rfl) (fun w23 hc23 hB23_ => ?_)
     have hS : Chg (fun q => q = g ∨ (Value.slice (some ⟨gE, 0, none⟩) rs2.length ec).ownBlock = some q) w15 w23 := hS.trans hc23 (fun q _ h => .inl h)
     have hzE := hE14.size
     have hgg := hT2.blk.lt
     have hEo : ∀ q, (Value.slice (some ⟨gE3, 0, none⟩) em3 ec3).ownBlock = some q → (Value.slice (some ⟨gE, 0, none⟩) rs2.length ec).ownBlock = some q ∨ w11.heap.size ≤ q := fun q hq => by
      rcases hf15 with h | h
      ·
       rw [h] at hq; exact .inl hq
      ·
       exact .inr (by have := h q hq; omega)
     have hg3 : g ≠ gE3 := fun e => by
      rcases hEo gE3 rfl with h | h
      ·
       exact hT2.ne.2.1 gE3 h e.symm
      ·
       omega
     have hC16 : Chg (fun q => q = g ∨ (Value.slice (some ⟨gE, 0, none⟩) rs2.length ec).ownBlock = some q) w11 w23 := ((Ext.chg hE14).trans hc15 (fun q _ h => .inr h)).trans hc23 (fun q _ h => .inl h)
     have hO16 := hO15'.chg hc23 (fun q hq e => by
      injection hq with hq
      have hq : gE3 = q := hq
      omega)
     have hT3 := hT2.push (y := (Rn.one ⟨false, id, (k : Int) + 1⟩ o.byte)) hC16 (fun q h => h) hB23_ hO16 (fun s => by cases s <;> exact Own.nil)
     refine ⟨hS, ?_⟩
     refine RH.done (by kernel_rfl) ?_
     skip
     exact ⟨.slice (some ⟨gE3, 0, none⟩) em3 ec3, Fr.ok, hT3, hC16, hEo⟩
   rintro u w24 hj24
   obtain ⟨hT3, hC16, hEo⟩ := hj24
   have hz3 : (rs2 ++ [(Rn.one ⟨false, id, (k : Int) + 1⟩ o.byte)])[a]? = some z := by rw [List.getElem?_append_left hal]; exact hz
   have hzm3 := List.mem_of_getElem? hz3
   obtain ⟨EA3, em3, ec3, rfl⟩ := hT3.es.lens
   obtain ⟨gE3, rfl⟩ := hT3.es.blk (by rw [rflat_get hz3]; simp [rC, nodeC])
   have hzE := hC16.size
   have hgg := hT2.blk.lt
   have hg3 : g ≠ gE3 := fun e => hT3.ne.2.1 gE3 rfl e.symm
   have hk1 : o.kind = 1 := by
    rcases hRO.kind with h | h
    ·
     exact h.1
    ·
     exact absurd h.1 (by assumption)
   have hstep := insN_step ho
   rw [if_pos hk1] at hstep
   have hn4 : (rs2 ++ [(Rn.one ⟨false, id, (k : Int) + 1⟩ o.byte)]).length ≤ 400001 := by
    have h1 : insN (ops.take (k + 1)) ≤ insN ops := List.Sublist.countP_le (List.take_sublist (k + 1) ops)
    rw [List.length_append, List.length_singleton]; omega
   have hsl : ∀ s, (side z.el s).length ≤ 400001 := fun s => by
    have h1 := good_kids hG2' hze s
    omega
   obtain ⟨hem3, hec3⟩ : rs2.length + 1 = em3 ∧ em3 ≤ ec3 := by
    obtain ⟨A', m', c', e, h1, h2, _⟩ := hT3.sl
    injection e with e1 e2 e3
    rw [List.length_append, List.length_singleton] at h1
    exact ⟨by omega, by omega⟩
   obtain ⟨a3, ha3, hmz⟩ := hT3.sl.get hz3
   obtain rfl := Option.some.inj ha3
   have hCw : Chg (Rp g rs av ev_) w w24 := hA.chg.stepO hC16 (fun q hq => hA.fresh q (by
    rcases hq with h | h
    ·
     exact .inl h
    ·
     exact .inr (.inr (.inl h))))
   obtain ⟨aa2, haa, hma16⟩ := (hlo2.chgN hCw (fun h0 q hq => (hb h0 q hq).2)).get ho
   obtain rfl := Option.some.inj haa
   refine CW.sr fun K23 hK23 => ?_
   refine WL.m rfl ?_
   refine WL.m rfl ?_
   refine WL.v (Y.indexAddrN Tryz.underlying46 rfl rfl sz0_apiOp (by omega)) ?_
   refine WL.v (Y.fieldAddr fo_apiOp1 rfl) ?_
   refine WL.v (Y.load1 Tryz.underlying4 rfl hma16.op1 rfl) ?_
   refine WL.nil (hK23 _ _ ?_); try clear hK23 K23
   (first | refine CW.condD rfl ?_ ?_ | refine CW.condND rfl ?_ ?_ | refine CW.condN rfl ?_ ?_ | refine CW.cond rfl ?_ ?_) <;> intro ht24
   ·
    -- then
    refine CW.held (fun wq => Chg (fun k => k = gE3) w24 wq) (by kernel_rfl) 19 rfl fun w25 hx25 => ?_
    have hS : Chg (fun k => k = gE3) w24 w25 := Ext.chg hx25
    refine RH.tk 0 hS rfl (fun wq hq => Y.move rfl) ?_
    refine RH.tk 1 hS rfl (fun wq hq => Y.nilCheck rfl) ?_
    refine RH.tk 2 hS rfl (fun wq hq => Y.fieldAddr fo_recensionref08Tree1 rfl) ?_
    refine RH.tk 3 hS rfl (fun wq hq => Y.load1 Tryz.underlying60 rfl ((hT3.blk.chg hq hg3).mem.recensionref08Tree1) rfl) ?_
    refine RH.tk 4 hS rfl (fun wq hq => Y.move rfl) ?_
    refine RH.tk 5 hS rfl (fun wq hq => Y.move rfl) ?_
    refine RH.tk 6 hS rfl (fun wq hq => Y.move rfl) ?_
    refine RH.tk 7 hS rfl (fun wq hq => Y.nilCheck rfl) ?_
    refine RH.tk 8 hS rfl (fun wq hq => Y.fieldAddr fo_recensionref08Tree1 rfl) ?_
    refine RH.tk 9 hS rfl (fun wq hq => Y.load1 Tryz.underlying60 rfl ((hT3.blk.chg hq hg3).mem.recensionref08Tree1) rfl) ?_
    refine RH.tk 10 hS rfl (fun wq hq => Y.move rfl) ?_
    refine RH.tk 11 hS rfl (fun wq hq => Y.indexAddrN Tryz.underlying60 rfl rfl sz0_recensionref08Elem (by omega)) ?_
    refine RH.tk 12 hS rfl (fun wq hq => Y.fieldAddr fo_recensionref08Elem3 rfl) ?_
    refine RH.tk 14 hS rfl (fun wq hq => Y.move rfl) ?_
    refine RH.one 13 (by kernel_rfl) ?_
    refine RS.val rfl (Y.load1 Tryz.underlying23 rfl ((hmz.ext hx25).recensionref08Elem3) rfl) (by decide) ⟨hS, ?_⟩
    refine RH.one 15 (by kernel_rfl) ?_
    refine RS.call rfl (fun _ _ h => by cases h) Tryz.func56 rfl rfl rfl (rput_any g (ad ++ [id]) (rs2 ++ [(Rn.one ⟨false, id, (k : Int) + 1⟩ o.byte)]) av2 _ _ (side z.el true) rs2.length _ (hT3.ext hx25) hn4 ((hT3.kids z hzm3 true).ext hx25) (hsl true) (by simp) (fun q hq => by have := hside true q hq; rw [List.length_append, List.length_singleton]; omega)) (by decide) fun v106 w26 hR26 => ?_
    obtain ⟨hO26, hf26, hx26⟩ := hR26
    have hz25 := hx25.size
    have hz26 := hx26.size
    obtain ⟨KA, km, kc, rfl⟩ := hO26.lens
    have hxx : Ext w24 w26 := hx25.thenExt hx26
    have hS : Chg (fun k => k = gE3) w24 w26 := Ext.chg hxx
    refine ⟨hS, ?_⟩
    refine RH.tk 16 hS rfl (fun wq hq => Y.indexAddrN Tryz.underlying60 rfl rfl sz0_recensionref08Elem (by omega)) ?_
    refine RH.tk 17 hS rfl (fun wq hq => Y.fieldAddr fo_recensionref08Elem3 rfl) ?_
    refine RH.one 18 (by kernel_rfl) ?_
    refine RS.storeO rfl (g := gE3) (pre := (((rs2 ++ [(Rn.one ⟨false, id, (k : Int) + 1⟩ o.byte)]).take a).map rC).flatten ++ (refC z.el.name ++ [bc z.el.byte, .bool z.el.gone])) (old := [z.lv]) (post := [z.rv] ++ (((rs2 ++ [(Rn.one ⟨false, id, (k : Int) + 1⟩ o.byte)]).drop (a + 1)).map rC).flatten) (new := [.slice KA km kc]) rfl (by rw [add_zero', List.length_append, rflat_len (by rw [List.length_append, List.length_singleton]; omega), List.length_append, refC_length]; rfl) rfl rfl (by kernel_rfl) (by have h9 := (hT3.ext hxx).es; rw [rflat_get hz3] at h9; simpa [rC, nodeC] using h9) rfl (one1 rfl) (fun w27 hc27 hB27_ => ?_)
    have hS : Chg (fun k => k = gE3) w24 w27 := hS.trans hc27 (fun q _ h => h)
    refine ⟨hS, ?_⟩
    refine RH.done (by kernel_rfl) ?_
    have hlf : o.left = true := by simp_all
    have hO27 : Own w27 TE8 38 (.slice (some ⟨gE3, 0, none⟩) em3 ec3) ((((rs2 ++ [(Rn.one ⟨false, id, (k : Int) + 1⟩ o.byte)]).set a (z.more (rels rs2) o.left ⟨false, id, (k : Int) + 1⟩ (.slice KA km kc))).map rC).flatten) := by
     rw [rflat_set _ hz3, rC_more, hlf]
     simpa [rC, nodeC] using hB27_
    have hput := kid_put (rs2 := rs2) (r := ⟨false, id, (k : Int) + 1⟩) (b := o.byte) (hside true)
    rw [hput] at hO26
    have hkE : ∀ q, (Value.slice KA km kc).ownBlock = some q → q ≠ gE3 := fun q hq e => by
     have h1 := hf26 q hq
     have h2 := (hT3.ext hx25).lt (.inr (.inr (.inl (show (Value.slice (some ⟨gE3, 0, none⟩) em3 ec3).ownBlock = some gE3 from rfl))))
     omega
    have hTT := (hT3.ext hxx).set (a := a) (y := z.more (rels rs2) o.left ⟨false, id, (k : Int) + 1⟩ (.slice KA km kc)) hc27 (fun q e => by rw [e]; rfl) hO27 (fun s => by
     have h1 := ((hT3.kids z hzm3 s).ext hxx).chg hc27 (fun q hq e => (hT3.ne.2.2 z hzm3 s q hq).2.2 (by rw [e]; rfl))
     have h2 := hO26.chg hc27 (fun q hq e => hkE q hq e)
     rw [hlf]
     show Own _ _ _ _ (intC (side (z.el.more (rels rs2) true ⟨false, id, (k : Int) + 1⟩) s))
     rw [side_more]
     cases s <;> first | exact h1 | exact h2)
    exact ⟨(_, av2, _), Fr.ok, hA.ins (hC16.trans hS (fun q hq e => by
      rcases hEo gE3 rfl with h | h
      ·
       rw [e]; exact .inr h
      ·
       omega)) hz hTT hEo (fun q hq => by have := hf26 q hq; omega) ho ha hk1⟩
   refine CW.held (fun wq => Chg (fun k => k = gE3) w24 wq) (by kernel_rfl) 19 rfl fun w28 hx28 => ?_
   have hS : Chg (fun k => k = gE3) w24 w28 := Ext.chg hx28
   refine RH.tk 0 hS rfl (fun wq hq => Y.move rfl) ?_
   refine RH.tk 1 hS rfl (fun wq hq => Y.nilCheck rfl) ?_
   refine RH.tk 2 hS rfl (fun wq hq => Y.fieldAddr fo_recensionref08Tree1 rfl) ?_
   refine RH.tk 3 hS rfl (fun wq hq => Y.load1 Tryz.underlying60 rfl ((hT3.blk.chg hq hg3).mem.recensionref08Tree1) rfl) ?_
   refine RH.tk 4 hS rfl (fun wq hq => Y.move rfl) ?_
   refine RH.tk 5 hS rfl (fun wq hq => Y.move rfl) ?_
   refine RH.tk 6 hS rfl (fun wq hq => Y.move rfl) ?_
   refine RH.tk 7 hS rfl (fun wq hq => Y.nilCheck rfl) ?_
   refine RH.tk 8 hS rfl (fun wq hq => Y.fieldAddr fo_recensionref08Tree1 rfl) ?_
   refine RH.tk 9 hS rfl (fun wq hq => Y.load1 Tryz.underlying60 rfl ((hT3.blk.chg hq hg3).mem.recensionref08Tree1) rfl) ?_
   refine RH.tk 10 hS rfl (fun wq hq => Y.move rfl) ?_
   refine RH.tk 11 hS rfl (fun wq hq => Y.indexAddrN Tryz.underlying60 rfl rfl sz0_recensionref08Elem (by omega)) ?_
   refine RH.tk 12 hS rfl (fun wq hq => Y.fieldAddr fo_recensionref08Elem4 rfl) ?_
   refine RH.tk 14 hS rfl (fun wq hq => Y.move rfl) ?_
   refine RH.one 13 (by kernel_rfl) ?_
   refine RS.val rfl (Y.load1 Tryz.underlying23 rfl ((hmz.ext hx28).recensionref08Elem4) rfl) (by decide) ⟨hS, ?_⟩
   refine RH.one 15 (by kernel_rfl) ?_
   refine RS.call rfl (fun _ _ h => by cases h) Tryz.func56 rfl rfl rfl (rput_any g (ad ++ [id]) (rs2 ++ [(Rn.one ⟨false, id, (k : Int) + 1⟩ o.byte)]) av2 _ _ (side z.el false) rs2.length _ (hT3.ext hx28) hn4 ((hT3.kids z hzm3 false).ext hx28) (hsl false) (by simp) (fun q hq => by have := hside false q hq; rw [List.length_append, List.length_singleton]; omega)) (by decide) fun v124 w29 hR29 => ?_
   obtain ⟨hO29, hf29, hx29⟩ := hR29
   have hz28 := hx28.size
   have hz29 := hx29.size
   obtain ⟨KA, km, kc, rfl⟩ := hO29.lens
   have hxx : Ext w24 w29 := hx28.thenExt hx29
   have hS : Chg (fun k => k = gE3) w24 w29 := Ext.chg hxx
   refine ⟨hS, ?_⟩
   refine RH.tk 16 hS rfl (fun wq hq => Y.indexAddrN Tryz.underlying60 rfl rfl sz0_recensionref08Elem (by omega)) ?_
   refine RH.tk 17 hS rfl (fun wq hq => Y.fieldAddr fo_recensionref08Elem4 rfl) ?_
   refine RH.one 18 (by kernel_rfl) ?_
   refine RS.storeO rfl (g := gE3) (pre := (((rs2 ++ [(Rn.one ⟨false, id, (k : Int) + 1⟩ o.byte)]).take a).map rC).flatten ++ (refC z.el.name ++ [bc z.el.byte, .bool z.el.gone, z.lv])) (old := [z.rv]) (post := (((rs2 ++ [(Rn.one ⟨false, id, (k : Int) + 1⟩ o.byte)]).drop (a + 1)).map rC).flatten) (new := [.slice KA km kc]) rfl (by rw [add_zero', List.length_append, rflat_len (by rw [List.length_append, List.length_singleton]; omega), List.length_append, refC_length]; rfl) rfl rfl (by kernel_rfl) (by have h9 := (hT3.ext hxx).es; rw [rflat_get hz3] at h9; simpa [rC, nodeC] using h9) rfl (one1 rfl) (fun w30 hc30 hB30_ => ?_)
   have hS : Chg (fun k => k = gE3) w24 w30 := hS.trans hc30 (fun q _ h => h)
   refine ⟨hS, ?_⟩
   refine RH.done (by kernel_rfl) ?_
   have hlf : o.left = false := by simp_all
   have hO30 : Own w30 TE8 38 (.slice (some ⟨gE3, 0, none⟩) em3 ec3) ((((rs2 ++ [(Rn.one ⟨false, id, (k : Int) + 1⟩ o.byte)]).set a (z.more (rels rs2) o.left ⟨false, id, (k : Int) + 1⟩ (.slice KA km kc))).map rC).flatten) := by
    rw [rflat_set _ hz3, rC_more, hlf]
    simpa [rC, nodeC] using hB30_
   have hput := kid_put (rs2 := rs2) (r := ⟨false, id, (k : Int) + 1⟩) (b := o.byte) (hside false)
   rw [hput] at hO29
   have hkE : ∀ q, (Value.slice KA km kc).ownBlock = some q → q ≠ gE3 := fun q hq e => by
    have h1 := hf29 q hq
    have h2 := (hT3.ext hx28).lt (.inr (.inr (.inl (show (Value.slice (some ⟨gE3, 0, none⟩) em3 ec3).ownBlock = some gE3 from rfl))))
    omega
   have hTT := (hT3.ext hxx).set (a := a) (y := z.more (rels rs2) o.left ⟨false, id, (k : Int) + 1⟩ (.slice KA km kc)) hc30 (fun q e => by rw [e]; rfl) hO30 (fun s => by
    have h1 := ((hT3.kids z hzm3 s).ext hxx).chg hc30 (fun q hq e => (hT3.ne.2.2 z hzm3 s q hq).2.2 (by rw [e]; rfl))
    have h2 := hO29.chg hc30 (fun q hq e => hkE q hq e)
    rw [hlf]
    show Own _ _ _ _ (intC (side (z.el.more (rels rs2) false ⟨false, id, (k : Int) + 1⟩) s))
    rw [side_more]
    cases s <;> first | exact h1 | exact h2)
   exact ⟨(_, av2, _), Fr.ok, hA.ins (hC16.trans hS (fun q hq e => by
     rcases hEo gE3 rfl with h | h
     ·
      rw [e]; exact .inr h
     ·
      omega)) hz hTT hEo (fun q hq => by have := hf29 q hq; omega) ho ha hk1⟩
  rintro u w31 hj31
  skip
  refine CW.region ?_
  refine WL.m rfl ?_
  refine WL.v (Y.add rfl rfl ⟨by omega, by omega⟩) ?_
  refine WL.a rfl ?_
  refine WL.nil ?_
  exact ⟨(k + 1, u), (by show m - (k + 1) < m - k; omega), Fr.ok, (by show k + 1 ≤ m; omega), hj31⟩
 refine CW.exit ?_
 refine hK7 _ _ ?_; try clear hK7 K7
 refine CW.sr fun K25 hK25 => ?_
 refine WL.a rfl ?_
 refine WL.nil (hK25 _ _ ?_); try clear hK25 K25
 refine CW.ret ⟨_, rfl, ?_⟩
 have hkm2 : k = ops.length := by omega
 subst hkm2
 have e1 : addT ⟨ad, rels rs⟩ id ops = ⟨ad ++ [id], addN id ops (rels rs) ops.length⟩ := by rw [addT, if_pos hw0]
 rw [e1]
 exact ⟨by rw [hw0], rs2, av2, ev2, hT2, hels, hA.chg, hA.fresh⟩
end Go.Proofs.YtjbeooimhoilmaaGreatDoor
/- The law's functions: commits, alive, Grown, place, walked. No condition. -/
namespace Go.Fw
open Go.Fu Go.Pl
structure CmV where
 id : Dig
 ops : List OpD
 A : Option Addr
 c : Nat
abbrev CmV.pv (x : CmV) : Value := .slice x.A x.ops.length x.c
def cmC (x : CmV) : List Value := digC x.id ++ [x.pv]
def CmV.zero : CmV := ⟨Dig.zero, [], none, 0⟩
section
variable {w : World} {a : Addr} {x : CmV}
end
structure Cms (w : World) (u : Value) (l : List CmV) : Prop where
 sl : Sl w cmC 33 u l
 ops : ∀ x ∈ l, Sl w opC 37 x.pv x.ops
 fit : ∀ x ∈ l, x.ops.length * 72 ≤ 140737488355328
 few : l.length < 4398046511104
theorem Cms.ext {w w' : World} {u : Value} {l : List CmV} (h : Cms w u l) (hc : Ext w w') : Cms w' u l := ⟨h.sl.ext hc, fun x hx => (h.ops x hx).ext hc, h.fit, h.few⟩
theorem Sl.own_lt {α : Type} {w : World} {enc : α → List Value} {k : Nat} {v : Value} {xs : List α} (h : Sl w enc k v xs) (he : ∀ x, enc x ≠ []) (hx : xs ≠ []) : ∀ b, v.ownBlock = some b → b < w.heap.size := by
 obtain ⟨A, m, c, rfl, _, _, _, hg⟩ := h
 cases xs with
 | nil => exact absurd rfl hx
 | cons y r =>
  obtain ⟨a, rfl, hm⟩ := hg 0 y rfl
  intro b hb
  have h1 := hm.lt (he y)
  simp [Value.ownBlock] at hb
  have h2 : (a.add (0 * k)).block = a.block := by unfold Addr.add; split <;> rfl
  rw [h2] at h1
  omega
theorem run_bsK2 {P : Program} {t e : TypeId} {ie : TypeInfo} {z : Value} {a b : Value} {xs ys : List Value} (hu : P.underlying t = some (.slice e)) (hi : P.info? e = some ie) (hz : ie.zero = some z) (h0 : 0 < ie.size) (hsm : ie.size * 2 ≤ 16777216) (ha : a.cells = xs.toArray) (hb : b.cells = ys.toArray) (hla : xs.length = ie.size) (hlb : ys.length = ie.size) (w : World) :
  (Instr.buildSlice t 2 [(0, a), (1, b)].toArray).run P w = .ok (.slice (some ⟨w.heap.size, 0, none⟩) 2 2) (w.alloc (.cells (xs ++ ys).toArray e)) := by
 refine run_buildSlice w t e 2 _ _ ie z hu hi hz (by omega) (by omega) ?_
 have h := Go.Great.fill_whole (s := ie.size) h0 [a, b] ((Array.range (2 * ie.size)).map (z.cells[· % z.cells.size]!)) (by intro u hu; simp at hu; rcases hu with rfl | rfl <;> simp [*]) (by simp)
 simpa [ha, hb] using h
end Go.Fw
namespace Go.Proofs.YtjbeooimhoilmaaGreatDoor
open Go.RowKit Go.Fw Go.Fu Go.Pl
theorem bs2_op (x y : OpD) (w : World) : (Instr.buildSlice 46 2 [(0, opV x), (1, opV y)].toArray).run Tryz.prog w = .ok (.slice (some ⟨w.heap.size, 0, none⟩) 2 2) (w.alloc (.cells (opC x ++ opC y).toArray 70)) := by
 obtain ⟨i, z, hi, hz, hk, _⟩ := ai_op
 exact run_bsK2 Tryz.underlying46 hi hz (by omega) (by omega) rfl rfl (by rw [opC_length, hk]) (by rw [opC_length, hk]) w
theorem Blk.own {w : World} {g k m : Nat} {t : TypeId} {cs : List Value} (h : Blk w g t cs) (hl : cs.length = m * k) (hm : m ≤ maxLen) : Own w t k (.slice (some ⟨g, 0, none⟩) m m) cs := .inr ⟨g, m, m, [], (0, 0), rfl, (by have h9 : w.heap[g]? = _ := h; simpa using h9), by simp [hl], by omega, hm, by simp [hl], fun o _ => by simp⟩
theorem Fp.ofNew {g rb ra gn q : Nat} (h : Fp g rb ra (newN gn) q) : q = g ∨ q = rb ∨ q = ra ∨ q = gn := by
 rcases h with h | h | h | ⟨x, hx, h⟩
 ·
  exact .inl h
 ·
  exact .inr (.inl h)
 ·
  exact .inr (.inr (.inl h))
 ·
  simp [newN] at hx
  subst hx
  rcases h with h | ⟨s, h⟩
  ·
   exact .inr (.inr (.inr h))
  ·
   cases s <;> simp [Nn.sv, Value.ownBlock] at h
theorem opC_ne (x : OpD) : opC x ≠ [] := fun h => by have := opC_length x; rw [h] at this; cases this
end Go.Proofs.YtjbeooimhoilmaaGreatDoor
