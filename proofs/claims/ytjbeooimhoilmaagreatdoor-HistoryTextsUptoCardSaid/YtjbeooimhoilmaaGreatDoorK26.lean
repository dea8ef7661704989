/- Parts of a proof: what its last text leans on. No condition. -/
import Derived.Test.YtjbeooimhoilmaaGreatDoorK11
import Derived.Test.YtjbeooimhoilmaaGreatDoorK13
import Derived.Test.YtjbeooimhoilmaaGreatDoorK17
import Derived.Test.YtjbeooimhoilmaaGreatDoorK21
import Derived.Test.YtjbeooimhoilmaaGreatDoorK22
import Derived.Test.YtjbeooimhoilmaaGreatDoorK23
import Derived.Test.YtjbeooimhoilmaaGreatDoorK24
import Derived.Test.YtjbeooimhoilmaaGreatDoorK25
set_option linter.unusedSimpArgs false
set_option linter.unusedVariables false
/- The reference's Read of histories, walked. No condition. -/
namespace Go.Proofs.YtjbeooimhoilmaaGreatDoor
open Go.RowKit Go.Fw Go.Pl Go.Sort Go.Fu
set_option maxRecDepth 100000 in
set_option maxHeartbeats 4000000 in
theorem rread9_any (u : Value) (l : List CoV) (w : World) (hl : Hcs w u l) : Calls Tryz.prog 14 #[u] w (Ret fun v w' => ∃ A c ys k, v = .tuple #[.slice A ys.length c, .int .i64 ((rdH (csL l)).1 : Int), .int .i64 (rdH (csL l)).2] ∧ Nds w' (.slice A ys.length c) ys ∧ ndsL ys = ndsH ((csL l).take k) ∧ ((rdH (csL l)).2 = 0 → k = l.length) ∧ Ext w w') := by
 obtain ⟨A2, m2, c2, rfl, hlm, hmc, hcm, hlg⟩ := id hl.sl
 unfold maxLen at hcm
 have hcl : (csL l).length = m2 := by rw [List.length_map]; exact hlm
 refine calls_of_CW 50 [2, 3, 4] [(0, .slice A2 m2 c2)] Tryz.func14 rfl rfl rfl (by simp) args1 ?_
 have hE : Ext w w := Chg.refl
 refine CW.sr fun K1 hK1 => ?_
 refine WL.a rfl ?_
 refine WL.a rfl ?_
 refine WL.a rfl ?_
 refine WL.nil (hK1 _ _ ?_); try clear hK1 K1
 refine CW.seq fun K2 hK2 => ?_
 refine CW.sr fun K3 hK3 => ?_
 refine WL.m rfl ?_
 refine WL.v (Y.len_slice Tryz.underlying22 rfl) ?_
 refine WL.v (Y.gtr rfl rfl) ?_
 refine WL.nil (hK3 _ _ ?_); try clear hK3 K3
 (first | refine CW.condD rfl ?_ ?_ | refine CW.condND rfl ?_ ?_ | refine CW.condN rfl ?_ ?_ | refine CW.cond rfl ?_ ?_) <;> intro ht4
 ·
  -- then
  refine CW.sr fun K5 hK5 => ?_
  refine WL.a rfl ?_
  refine WL.a rfl ?_
  refine WL.a rfl ?_
  refine WL.nil (hK5 _ _ ?_); try clear hK5 K5
  refine CW.ret ⟨_, rfl, ?_⟩
  have he : rdH (csL l) = (0, 4) := by rw [rdH, if_pos (by omega)]
  exact ⟨none, 0, [], 0, by rw [he]; rfl, RdAt.nil.nds (w := w), rfl, fun h => (by rw [he] at h; cases h), hE⟩
 refine CW.skip ?_
 refine hK2 _ _ ?_; try clear hK2 K2
 refine CW.sr fun K6 hK6 => ?_
 refine WL.a rfl ?_
 refine WL.nil (hK6 _ _ ?_); try clear hK6 K6
 refine CW.seq fun K7 hK7 => ?_
 refine CW.sr fun K8 hK8 => ?_
 refine WL.a rfl ?_
 refine WL.nil (hK8 _ _ ?_); try clear hK8 K8
 refine CW.block ?_
 refine CW.loop (X := Option Addr × Nat × List NdV) (fun x => [(0, .slice A2 m2 c2), (5, .slice x.1 x.2.2.length x.2.1), (6, .int .i64 (x.2.2.length : Int))]) (fun x w0 => x.2.2.length ≤ m2 ∧ Own w0 TNo 33 (.slice x.1 x.2.2.length x.2.1) ((x.2.2.map ndC).flatten) ∧ (∀ y ∈ x.2.2, Sl w digC 32 y.pv y.n.ps) ∧ (∀ k, (Value.slice x.1 x.2.2.length x.2.1).ownBlock = some k → w.heap.size ≤ k) ∧ ndsL x.2.2 = ndsH ((csL l).take x.2.2.length) ∧ HOk ((csL l).take x.2.2.length) ∧ hread (csL l) [] = hread ((csL l).drop x.2.2.length) ((csL l).take x.2.2.length) ∧ Ext w w0) (fun x => m2 - x.2.2.length) (none, 0, []) Fr.ok ⟨Nat.zero_le _, Own.nil, (fun y hy => by cases hy), (fun k h => by simp [Value.ownBlock] at h), rfl, HOk.nil, rfl, hE⟩ ?_
 intro x w1 hl1
 clear hE
 obtain ⟨A, c, ys⟩ := x
 dsimp only at hl1 ⊢
 obtain ⟨hxm, hO, hpy, hfu, his, hok, hrd, hE⟩ := hl1
 have hzE := hE.size
 have hOlt := hO.lt
 refine CW.seq fun K9 hK9 => ?_
 refine CW.sr fun K10 hK10 => ?_
 refine WL.m rfl ?_
 refine WL.m rfl ?_
 refine WL.v (Y.len_slice Tryz.underlying22 rfl) ?_
 refine WL.v (Y.lss rfl rfl) ?_
 refine WL.nil (hK10 _ _ ?_); try clear hK10 K10
 (first | refine CW.condD rfl ?_ ?_ | refine CW.condND rfl ?_ ?_ | refine CW.condN rfl ?_ ?_ | refine CW.cond rfl ?_ ?_) <;> intro ht11
 ·
  -- then
  refine CW.skip ?_
  refine hK9 _ _ ?_; try clear hK9 K9
  refine CW.seq fun K12 hK12 => ?_
  refine CW.block ?_
  refine CW.seq fun K13 hK13 => ?_
  obtain ⟨cx, hcx⟩ : ∃ cx, l[ys.length]? = some cx := ⟨_, List.getElem?_eq_getElem (by omega)⟩
  have hco := hl.all cx (List.mem_of_getElem? hcx)
  obtain ⟨a2, rfl, hma2⟩ := hlg _ _ hcx
  obtain ⟨cm, pA, pca, oB, ocb⟩ := cx
  have hps := hco.ps
  have hos := hco.os
  have hcom := hco.com
  dsimp only [CoV.pv, CoV.ov, coC] at hps hos hma2
  have hN : Nds w1 (.slice A ys.length c) ys := ⟨hO.sl ndC_length (by decide), fun y hy => (hpy y hy).ext hE⟩
  have htl : ((csL l).take ys.length).length = ys.length := by rw [List.length_take]; omega
  refine CW.region ?_
  refine WL.m rfl ?_
  refine WL.m rfl ?_
  refine WL.m rfl ?_
  refine WL.m rfl ?_
  refine WL.v (Y.indexAddrN Tryz.underlying22 rfl rfl sz0_apiCommit (by omega)) ?_
  refine WL.v (Y.load Tryz.underlying48 rfl (hma2.ext hE) (sz_apiCommit _ _ _ _) rfl) ?_
  refine WL.call Tryz.func26 rfl rfl rfl (rwrong9_any _ _ ys ((csL l).take ys.length) l ⟨cm, pA, pca, oB, ocb⟩ _ hN his hok (by omega) (hl.ext hE) (by rw [htl]) (hco.ext hE)) (by simp) ?_; rintro v w2 ⟨rfl, hx2⟩; have hz2 := hx2.size; have hE := hE.thenExt hx2
  refine WL.a rfl ?_
  refine WL.nil (hK13 _ _ ?_); try clear hK13 K13
  refine CW.seq fun K14 hK14 => ?_
  refine CW.sr fun K15 hK15 => ?_
  refine WL.m rfl ?_
  refine WL.v (Y.neq rfl rfl) ?_
  refine WL.nil (hK15 _ _ ?_); try clear hK15 K15
  (first | refine CW.condD rfl ?_ ?_ | refine CW.condND rfl ?_ ?_ | refine CW.condN rfl ?_ ?_ | refine CW.cond rfl ?_ ?_) <;> intro ht16
  ·
   -- then
   refine CW.seq fun K17 hK17 => ?_
   have hw1 := hread_stop (cs_at hcx) (by assumption)
   rw [← hrd] at hw1
   refine CW.region ?_
   refine WL.m rfl ?_
   refine WL.m rfl ?_
   refine WL.m rfl ?_
   refine WL.a rfl ?_
   refine WL.a rfl ?_
   refine WL.a rfl ?_
   refine WL.nil (hK17 _ _ ?_); try clear hK17 K17
   refine CW.ret ⟨_, rfl, ?_⟩
   have he : rdH (csL l) = (ys.length, hErr ((csL l).take ys.length) cm) := by rw [rdH, if_neg (by omega)]; exact hw1
   exact ⟨A, c, ys, ys.length, by rw [he], hN.ext hx2, his, fun h => (by rw [he] at h; exact absurd h (by assumption)), hE⟩
  refine CW.skip ?_
  refine hK14 _ _ ?_; try clear hK14 K14
  refine CW.seq fun K18 hK18 => ?_
  have hw0 : hErr ((csL l).take ys.length) cm = 0 := Decidable.not_not.1 (by assumption)
  have hw1 := hErr_ok.1 hw0
  refine CW.region ?_
  refine WL.m rfl ?_
  refine WL.m rfl ?_
  refine WL.v (Y.indexAddrN Tryz.underlying22 rfl rfl sz0_apiCommit (by omega)) ?_
  refine WL.v (Y.load Tryz.underlying48 rfl (hma2.ext hE) (sz_apiCommit _ _ _ _) rfl) ?_
  refine WL.call Tryz.func27 rfl rfl rfl (rId_any _ cm _ (hcom.ext hE)) (by simp) ?_; rintro v w3 ⟨rfl, hx3⟩; have hz3 := hx3.size; have hE := hE.thenExt hx3
  refine WL.m rfl ?_
  refine WL.v (Y.extract rfl rfl) ?_
  refine WL.v (Y.extract rfl rfl) ?_
  refine as_apiDigest rfl (by simp) (by decide) fun g8 w4 hx4 hg8 hB8 => ?_
  have hlt8 := hB8.lt; have hz4 := hx4.size
  have hM8 := hB8.mem; have hz4 := hx4.size; have hE := hE.thenExt hx4
  refine WL.a rfl ?_
  refine WL.nil (hK18 _ _ ?_); try clear hK18 K18
  refine CW.held (fun wq => Chg (fun k => (Value.slice A ys.length c).ownBlock = some k) w4 wq) (by kernel_rfl) 11 rfl fun w5 hx5 => ?_
  have hS : Chg (fun k => (Value.slice A ys.length c).ownBlock = some k) w4 w5 := Ext.chg hx5
  have hz5 := hx5.size
  have h8n : ¬ (Value.slice A ys.length c).ownBlock = some g8 := fun h => by have := hOlt _ h; omega
  have hO := (((hO.ext hx2).ext hx3).ext hx4).ext hx5
  refine RH.tk 0 hS rfl (fun wq hq => Y.move rfl) ?_
  refine RH.tk 1 hS rfl (fun wq hq => Y.load Tryz.underlying43 rfl (hB8.chg hq (fun h => h8n h)).mem (sz_apiDigest _) rfl) ?_
  refine RH.tk 2 hS rfl (fun wq hq => Y.move rfl) ?_
  refine RH.tk 3 hS rfl (fun wq hq => Y.move rfl) ?_
  refine RH.tk 4 hS rfl (fun wq hq => Y.indexAddrN Tryz.underlying22 rfl rfl sz0_apiCommit (by omega)) ?_
  refine RH.tk 5 hS rfl (fun wq hq => Y.fieldAddr fo_apiCommit0 rfl) ?_
  refine RH.tk 6 hS rfl (fun wq hq => Y.load1 Tryz.underlying24 rfl (show wq.cell? _ = some (.slice pA cm.parents.length pca) from (hma2.ext (hE.step hq (fun k h => by have := hfu k h; omega))).com0) rfl) ?_
  refine RH.tk 7 hS rfl (fun wq hq => Y.build rfl (build_ndH _ cm.parents _ _ _ rfl _)) ?_
  refine RH.one 8 (by kernel_rfl) ?_
  refine RS.st rfl (St.buildSlice rfl (bs1_ndH (⟨⟨idD cm, cm.parents⟩, pA, pca⟩ : NdV))) (by decide) fun v47 w6 hR6 => ?_
  obtain ⟨g47, rfl, hg47, hB47, hx6⟩ := hR6
  have hz6 := hx6.size
  have hS : Chg (fun k => (Value.slice A ys.length c).ownBlock = some k) w4 w6 := hS.thenExt hx6
  have hO := hO.ext hx6
  refine ⟨hS, ?_⟩
  refine RH.one 9 (by kernel_rfl) ?_
  refine RS.st rfl (St.append (m := 1) (news := ndC (⟨⟨idD cm, cm.parents⟩, pA, pca⟩ : NdV)) Tryz.underlying37 Tryz.underlying37 ai_ndH rfl rfl hO (Fw.Src.one hB47 (ndC_length _)) one_ndC (by rw [flat_nd]; omega)) (by decide) fun v48 w7 hR7 => ?_
  obtain ⟨hO7, hc7, hf7⟩ := hR7
  have hz7 := hc7.size
  have hS : Chg (fun k => (Value.slice A ys.length c).ownBlock = some k) w4 w7 := hS.trans hc7 (fun k _ h => h)
  obtain ⟨A5, n5, c5, rfl⟩ := hO7.lens
  have hn5 : n5 = (ys ++ [(⟨⟨idD cm, cm.parents⟩, pA, pca⟩ : NdV)]).length := by
   have := (hO7.mem _ _ _ rfl).2.2.1
   rw [List.length_append, flat_nd, ndC_length] at this
   rw [List.length_append, List.length_singleton]
   omega
  subst hn5
  refine ⟨hS, ?_⟩
  refine RH.tk 10 hS rfl (fun wq hq => Y.assign rfl) ?_
  refine RH.done (by kernel_rfl) ?_
  have hE := hE.step hS (fun k h => by have := hfu k h; omega)
  refine hK12 _ _ ?_; try clear hK12 K12
  refine CW.region ?_
  refine WL.m rfl ?_
  refine WL.v (Y.add rfl rfl ⟨by omega, by omega⟩) ?_
  refine WL.a rfl ?_
  refine WL.nil ?_
  refine ⟨(A5, c5, ys ++ [(⟨⟨idD cm, cm.parents⟩, pA, pca⟩ : NdV)]), by show m2 - (ys ++ [_]).length < m2 - ys.length; rw [List.length_append, List.length_singleton]; omega, ?_, ?_, ?_, ?_, ?_, ?_, ?_, ?_, hE⟩
  ·
   rw [show ((ys.length : Int) + 1) = (((ys ++ [(⟨⟨idD cm, cm.parents⟩, pA, pca⟩ : NdV)]).length : Nat) : Int) by rw [List.length_append, List.length_singleton]; omega]
   exact Fr.ok
  ·
   show (ys ++ [_]).length ≤ m2
   rw [List.length_append, List.length_singleton]; omega
  ·
   show Own w7 TNo 33 _ (((ys ++ [_]).map ndC).flatten)
   rw [List.map_append, List.flatten_append]
   simpa using hO7
  ·
   intro y hy
   rcases List.mem_append.1 hy with hy | hy
   ·
    exact hpy y hy
   ·
    rw [List.mem_singleton] at hy; subst hy; exact hps
  ·
   intro k hk
   rcases hf7 with h | h
   ·
    exact hfu k (h ▸ hk)
   ·
    have := h k hk; omega
  ·
   show ndsL (ys ++ [_]) = ndsH ((csL l).take (ys ++ [_]).length)
   rw [List.length_append, List.length_singleton, ndsL, List.map_append, ← ndsL, his, take_succ (cs_at hcx), ndsH, ndsH, List.map_append]; rfl
  ·
   show HOk ((csL l).take (ys ++ [_]).length)
   rw [List.length_append, List.length_singleton, take_succ (cs_at hcx)]
   exact hok.snoc hw1
  ·
   show hread (csL l) [] = hread ((csL l).drop (ys ++ [_]).length) ((csL l).take (ys ++ [_]).length)
   rw [List.length_append, List.length_singleton, hrd]
   exact hread_step (cs_at hcx) hw0
 refine CW.exit ?_
 refine hK7 _ _ ?_; try clear hK7 K7
 refine CW.sr fun K19 hK19 => ?_
 refine WL.m rfl ?_
 refine WL.a rfl ?_
 refine WL.a rfl ?_
 refine WL.a rfl ?_
 refine WL.nil (hK19 _ _ ?_); try clear hK19 K19
 refine CW.ret ⟨_, rfl, ?_⟩
 have hym : ys.length = m2 := by omega
 have he : rdH (csL l) = (0, 0) := by
  rw [rdH, if_neg (by omega), hrd, List.drop_of_length_le (by omega)]; rfl
 exact ⟨A, c, ys, ys.length, by rw [he]; rfl, ⟨hO.sl ndC_length (by decide), fun y hy => (hpy y hy).ext hE⟩, his, fun _ => by omega, hE⟩
end Go.Proofs.YtjbeooimhoilmaaGreatDoor
/- The document's trees: the walk, Order, Seen, Text, Ref, Place, Has, walked. No condition. -/
namespace Go.Proofs.YtjbeooimhoilmaaGreatDoor
open Go.RowKit Go.Fw Go.Fu Go.Pl
def RwC (g : Nat) (ad : List Dig) (rs : List Rn) (av ev_ : Value) (i : Nat) : Prop := ∀ (w : World) (o : Value) (lo : List Nat), RtAt w g ad rs av ev_ → Own w TI8 1 o (intC lo) → (∀ q, o.ownBlock = some q → ¬ Rp g rs av ev_ q) → lo.length + (walkE (rels rs) i).length ≤ 1000000 →
 Calls Tryz.prog 81 #[.pointer (some ⟨g, 0, none⟩), .int .i64 (i : Int), o] w (Ret fun v w' => Own w' TI8 1 v (intC (lo ++ walkE (rels rs) i)) ∧ Chg (fun k => o.ownBlock = some k) w w' ∧ ∀ k, v.ownBlock = some k → o.ownBlock = some k ∨ w.heap.size ≤ k)
set_option maxHeartbeats 1000000 in
theorem rwalk_step (g : Nat) (ad : List Dig) (rs : List Rn) (av ev_ : Value) (i : Nat) (el : El) (lv rv : Value) (hn : rs.length ≤ 400001) (hD : Fu.Down (rels rs)) (hz : rs[i]? = some ⟨el, lv, rv⟩) (IH : ∀ c, c ∈ el.left ∨ c ∈ el.right → c < rs.length → RwC g ad rs av ev_ c) (w : World) (o : Value) (lo : List Nat) (hR : RtAt w g ad rs av ev_) (ho : Own w TI8 1 o (intC lo)) (hd : ∀ q, o.ownBlock = some q → ¬ Rp g rs av ev_ q) (hlen : lo.length + (walkE (rels rs) i).length ≤ 1000000) : Calls Tryz.prog 81 #[.pointer (some ⟨g, 0, none⟩), .int .i64 (i : Int), o] w (Ret fun v w' => Own w' TI8 1 v (intC (lo ++ walkE (rels rs) i)) ∧ Chg (fun k => o.ownBlock = some k) w w' ∧ ∀ k, v.ownBlock = some k → o.ownBlock = some k ∨ w.heap.size ≤ k) := by
 obtain ⟨A, m, c, rfl⟩ := hR.es.lens
 have hsl := hR.sl
 have hel : (rels rs).length = rs.length := List.length_map _
 have hmm : rs.length = m ∧ m ≤ c ∧ c ≤ maxLen := by
  obtain ⟨A', m', c', e, h1, h2, h3, _⟩ := hsl
  injection e with e1 e2 e3
  exact ⟨by omega, by omega, by omega⟩
 unfold maxLen at hmm
 have hat : ∀ i x, rs[i]? = some x → ∃ a, A = some a ∧ Mem w (a.add (i * 38)) (rC x) := fun i x hx => hsl.get hx
 have hxe : ∀ (i : Nat) (x : Rn), rs[i]? = some x → (rels rs)[i]? = some x.el := fun i x hx => by rw [List.getElem?_map, hx]; rfl
 have hil := (List.getElem?_eq_some_iff.1 hz).1
 obtain ⟨a, ha, hmz⟩ := hat i _ hz
 obtain rfl := ha
 have hzm := List.mem_of_getElem? hz
 have hkl : Own w TI8 1 lv (intC el.left) := hR.kids _ hzm true
 have hkr : Own w TI8 1 rv (intC el.right) := hR.kids _ hzm false
 obtain ⟨LA, lm, lc, rfl⟩ := hkl.lens
 obtain ⟨MA, mm, mc, rfl⟩ := hkr.lens
 obtain ⟨hll, _⟩ := int_map hkl
 obtain ⟨hrl, _⟩ := int_map hkr
 have hwe := walkE_eq hD (hxe i _ hz)
 dsimp only at hwe
 have hdn := hD i el (hxe i _ hz)
 have hle : (walkE (rels rs) i).length = (el.left.flatMap (walkE (rels rs))).length + 1 + (el.right.flatMap (walkE (rels rs))).length := by rw [hwe]; simp; omega
 have hcl := hkl.mem LA lm lc rfl
 have hcr := hkr.mem MA mm mc rfl
 unfold maxLen at hcl hcr
 refine calls_of_CW 58 [6] [(0, .pointer (some ⟨g, 0, none⟩)), (1, .int .i64 (i : Int)), (2, o)] Tryz.func81 rfl rfl rfl (by simp) args3 ?_
 have hE : Ext w w := Chg.refl
 refine CW.sr fun K1 hK1 => ?_
 refine WL.a rfl ?_
 refine WL.nil (hK1 _ _ ?_); try clear hK1 K1
 refine CW.sr fun K2 hK2 => ?_
 refine WL.m rfl ?_
 refine WL.v (Y.nilCheck rfl) ?_
 refine WL.v (Y.fieldAddr fo_recensionref08Tree1 rfl) ?_
 refine WL.v (Y.load1 Tryz.underlying60 rfl hR.blk.mem.recensionref08Tree1 rfl) ?_
 refine WL.m rfl ?_
 refine WL.v (Y.indexAddrN Tryz.underlying60 rfl rfl sz0_recensionref08Elem (by omega)) ?_
 refine WL.v (Y.fieldAddr fo_recensionref08Elem3 rfl) ?_
 refine WL.v (Y.load1 Tryz.underlying23 rfl hmz.recensionref08Elem3 rfl) ?_
 refine WL.a rfl ?_
 refine WL.nil (hK2 _ _ ?_); try clear hK2 K2
 refine CW.seq fun K3 hK3 => ?_
 refine CW.sr fun K4 hK4 => ?_
 refine WL.a rfl ?_
 refine WL.nil (hK4 _ _ ?_); try clear hK4 K4
 refine CW.block ?_
 refine CW.loop (X := Nat × Value) (fun x => [(0, .pointer (some ⟨g, 0, none⟩)), (1, .int .i64 (i : Int)), (2, x.2), (7, .slice LA lm lc), (8, .int .i64 (x.1 : Int))]) (fun x w0 => x.1 ≤ lm ∧ Own w0 TI8 1 x.2 (intC (lo ++ (el.left.take x.1).flatMap (walkE (rels rs)))) ∧ Chg (fun q => o.ownBlock = some q) w w0 ∧ ∀ q, x.2.ownBlock = some q → o.ownBlock = some q ∨ w.heap.size ≤ q) (fun x => lm - x.1) (0, o) Fr.ok ⟨Nat.zero_le _, (by simpa using ho), Chg.refl, (fun q hq => .inl hq)⟩ ?_
 intro x w1 hl1
 obtain ⟨k, u1⟩ := x
 dsimp only at hl1 ⊢
 obtain ⟨hkm, hO, hC, hf⟩ := hl1
 have hzC := hC.size
 have hR1 : RtAt w1 g ad rs av (.slice (some a) m c) := hR.chg hC (fun q hq h => hd q h hq)
 have hd1 : ∀ q, u1.ownBlock = some q → ¬ Rp g rs av (.slice (some a) m c) q := fun q hq h => by
  rcases hf q hq with h1 | h1
  ·
   exact hd q h1 h
  ·
   have := hR.lt h; omega
 refine CW.seq fun K5 hK5 => ?_
 refine CW.sr fun K6 hK6 => ?_
 refine WL.m rfl ?_
 refine WL.m rfl ?_
 refine WL.v (Y.len_slice Tryz.underlying23 rfl) ?_
 refine WL.v (Y.lss rfl rfl) ?_
 refine WL.nil (hK6 _ _ ?_); try clear hK6 K6
 (first | refine CW.condD rfl ?_ ?_ | refine CW.condND rfl ?_ ?_ | refine CW.condN rfl ?_ ?_ | refine CW.cond rfl ?_ ?_) <;> intro ht7
 ·
  -- then
  refine CW.skip ?_
  refine hK5 _ _ ?_; try clear hK5 K5
  refine CW.seq fun K8 hK8 => ?_
  refine CW.block ?_
  obtain ⟨b, hb⟩ : ∃ b, el.left[k]? = some b := ⟨_, List.getElem?_eq_getElem (by omega)⟩
  have hbm := List.mem_of_getElem? hb
  have hbl : b < rs.length := by have := hdn b (.inl hbm); omega
  obtain ⟨a2, rfl, hma⟩ := (int_map ((hR1.kids _ hzm true))).2 k b hb
  have hfl := flat_take_le (f := walkE (rels rs)) hb
  refine CW.region ?_
  refine WL.m rfl ?_
  refine WL.m rfl ?_
  refine WL.m rfl ?_
  refine WL.v (Y.indexAddrN Tryz.underlying23 rfl rfl sz0_int (by omega)) ?_
  refine WL.v (Y.load1 Tryz.underlying3 rfl hma.cell0 rfl) ?_
  refine WL.m rfl ?_
  refine WL.call Tryz.func81 rfl rfl rfl (IH b (.inl hbm) hbl _ u1 _ hR1 hO hd1 (by rw [List.length_append]; omega)) (by simp) ?_; rintro v31 w2 hR2
  obtain ⟨hO2, hc2, hf2⟩ := hR2
  have hz2 := hc2.size
  refine WL.a rfl ?_
  refine WL.nil (hK8 _ _ ?_); try clear hK8 K8
  refine CW.region ?_
  refine WL.m rfl ?_
  refine WL.v (Y.add rfl rfl ⟨by omega, by omega⟩) ?_
  refine WL.a rfl ?_
  refine WL.nil ?_
  have htk := flat_takeS (f := walkE (rels rs)) hb
  exact ⟨(k + 1, v31), (by show lm - (k + 1) < lm - k; omega), Fr.ok, (by show k + 1 ≤ lm; omega), (by show Own _ _ _ _ (intC (lo ++ (el.left.take (k + 1)).flatMap (walkE (rels rs)))); rw [htk, ← List.append_assoc]; exact hO2), hC.stepO hc2 (fun q hq => hf q hq), (fun q hq => by
   rcases hf2 q hq with h | h
   ·
    exact hf q h
   ·
    exact .inr (by omega))⟩
 refine CW.exit ?_
 refine hK3 _ _ ?_; try clear hK3 K3
 refine CW.sr fun K9 hK9 => ?_
 refine WL.m rfl ?_
 refine WL.m rfl ?_
 refine WL.st (St.buildSlice rfl (bs1_int _)) (by decide) fun v34 w3 hR3 => ?_
 have hke : el.left.take k = el.left := List.take_of_length_le (by omega)
 rw [hke] at hO
 obtain ⟨g34, rfl, hg34, hB34, hx3⟩ := hR3
 have hz3 := hx3.size
 refine WL.st (St.append (m := 1) (news := intC [i]) UI UI ai_int rfl rfl (hO.ext hx3) (Fw.Src.one hB34 rfl) one_intC (by rw [intC_length, List.length_append]; omega)) (by decide) fun v35 w4 hR4 => ?_
 obtain ⟨hO4, hc4, hf4⟩ := hR4
 have hz4 := hc4.size
 rw [← intC_app] at hO4
 have hC4 : Chg (fun q => o.ownBlock = some q) w w4 := (hC.thenExt hx3).stepO hc4 (fun q hq => hf q hq)
 have hf5 : ∀ q, v35.ownBlock = some q → o.ownBlock = some q ∨ w.heap.size ≤ q := fun q hq => by
  rcases hf4 with h | h
  ·
   rw [h] at hq; exact hf q hq
  ·
   exact .inr (by have := h q hq; omega)
 have hR4 : RtAt w4 g ad rs av (.slice (some a) m c) := hR.chg hC4 (fun q hq h => hd q h hq)
 obtain ⟨a4, ha4, hmz4⟩ := hR4.sl.get hz
 obtain rfl := Option.some.inj ha4
 refine WL.a rfl ?_
 refine WL.nil (hK9 _ _ ?_); try clear hK9 K9
 refine CW.sr fun K10 hK10 => ?_
 refine WL.m rfl ?_
 refine WL.v (Y.nilCheck rfl) ?_
 refine WL.v (Y.fieldAddr fo_recensionref08Tree1 rfl) ?_
 refine WL.v (Y.load1 Tryz.underlying60 rfl hR4.blk.mem.recensionref08Tree1 rfl) ?_
 refine WL.m rfl ?_
 refine WL.v (Y.indexAddrN Tryz.underlying60 rfl rfl sz0_recensionref08Elem (by omega)) ?_
 refine WL.v (Y.fieldAddr fo_recensionref08Elem4 rfl) ?_
 refine WL.v (Y.load1 Tryz.underlying23 rfl hmz4.recensionref08Elem4 rfl) ?_
 refine WL.a rfl ?_
 refine WL.nil (hK10 _ _ ?_); try clear hK10 K10
 refine CW.seq fun K11 hK11 => ?_
 refine CW.sr fun K12 hK12 => ?_
 refine WL.a rfl ?_
 refine WL.nil (hK12 _ _ ?_); try clear hK12 K12
 refine CW.block ?_
 refine CW.loop (X := Nat × Value) (fun x => [(0, .pointer (some ⟨g, 0, none⟩)), (1, .int .i64 (i : Int)), (2, x.2), (9, .slice MA mm mc), (10, .int .i64 (x.1 : Int))]) (fun x w0 => x.1 ≤ mm ∧ Own w0 TI8 1 x.2 (intC (lo ++ el.left.flatMap (walkE (rels rs)) ++ [i] ++ (el.right.take x.1).flatMap (walkE (rels rs)))) ∧ Chg (fun q => o.ownBlock = some q) w w0 ∧ ∀ q, x.2.ownBlock = some q → o.ownBlock = some q ∨ w.heap.size ≤ q) (fun x => mm - x.1) (0, v35) Fr.ok ⟨Nat.zero_le _, (by simpa using hO4), hC4, hf5⟩ ?_
 intro x w5 hl5
 obtain ⟨k, u1⟩ := x
 dsimp only at hl5 ⊢
 obtain ⟨hkm, hO, hC, hf⟩ := hl5
 have hzC := hC.size
 have hR1 : RtAt w5 g ad rs av (.slice (some a) m c) := hR.chg hC (fun q hq h => hd q h hq)
 have hd1 : ∀ q, u1.ownBlock = some q → ¬ Rp g rs av (.slice (some a) m c) q := fun q hq h => by
  rcases hf q hq with h1 | h1
  ·
   exact hd q h1 h
  ·
   have := hR.lt h; omega
 refine CW.seq fun K13 hK13 => ?_
 refine CW.sr fun K14 hK14 => ?_
 refine WL.m rfl ?_
 refine WL.m rfl ?_
 refine WL.v (Y.len_slice Tryz.underlying23 rfl) ?_
 refine WL.v (Y.lss rfl rfl) ?_
 refine WL.nil (hK14 _ _ ?_); try clear hK14 K14
 (first | refine CW.condD rfl ?_ ?_ | refine CW.condND rfl ?_ ?_ | refine CW.condN rfl ?_ ?_ | refine CW.cond rfl ?_ ?_) <;> intro ht15
 ·
  -- then
  refine CW.skip ?_
  refine hK13 _ _ ?_; try clear hK13 K13
  refine CW.seq fun K16 hK16 => ?_
  refine CW.block ?_
  obtain ⟨b, hb⟩ : ∃ b, el.right[k]? = some b := ⟨_, List.getElem?_eq_getElem (by omega)⟩
  have hbm := List.mem_of_getElem? hb
  have hbl : b < rs.length := by have := hdn b (.inr hbm); omega
  obtain ⟨a2, rfl, hma⟩ := (int_map ((hR1.kids _ hzm false))).2 k b hb
  have hfl := flat_take_le (f := walkE (rels rs)) hb
  refine CW.region ?_
  refine WL.m rfl ?_
  refine WL.m rfl ?_
  refine WL.m rfl ?_
  refine WL.v (Y.indexAddrN Tryz.underlying23 rfl rfl sz0_int (by omega)) ?_
  refine WL.v (Y.load1 Tryz.underlying3 rfl hma.cell0 rfl) ?_
  refine WL.m rfl ?_
  refine WL.call Tryz.func81 rfl rfl rfl (IH b (.inr hbm) hbl _ u1 _ hR1 hO hd1 (by simp only [List.length_append, List.length_singleton]; omega)) (by simp) ?_; rintro v56 w6 hR6
  obtain ⟨hO2, hc2, hf2⟩ := hR6
  have hz2 := hc2.size
  refine WL.a rfl ?_
  refine WL.nil (hK16 _ _ ?_); try clear hK16 K16
  refine CW.region ?_
  refine WL.m rfl ?_
  refine WL.v (Y.add rfl rfl ⟨by omega, by omega⟩) ?_
  refine WL.a rfl ?_
  refine WL.nil ?_
  have htk := flat_takeS (f := walkE (rels rs)) hb
  exact ⟨(k + 1, v56), (by show mm - (k + 1) < mm - k; omega), Fr.ok, (by show k + 1 ≤ mm; omega), (by show Own _ _ _ _ (intC (lo ++ el.left.flatMap (walkE (rels rs)) ++ [i] ++ (el.right.take (k + 1)).flatMap (walkE (rels rs)))); rw [htk, ← List.append_assoc]; exact hO2), hC.stepO hc2 (fun q hq => hf q hq), (fun q hq => by
   rcases hf2 q hq with h | h
   ·
    exact hf q h
   ·
    exact .inr (by omega))⟩
 refine CW.exit ?_
 refine hK11 _ _ ?_; try clear hK11 K11
 refine CW.sr fun K17 hK17 => ?_
 refine WL.m rfl ?_
 refine WL.a rfl ?_
 refine WL.nil (hK17 _ _ ?_); try clear hK17 K17
 refine CW.ret ⟨_, rfl, ?_⟩
 have hke : el.right.take k = el.right := List.take_of_length_le (by omega)
 rw [hke] at hO
 exact ⟨by rw [hwe]; simpa using hO, hC, hf⟩
end Go.Proofs.YtjbeooimhoilmaaGreatDoor
/- The document's trees: Order, Seen, Ref, Place, Has, walked. No condition. -/
namespace Go.Proofs.YtjbeooimhoilmaaGreatDoor
open Go.RowKit Go.Fw Go.Fu Go.Pl
theorem rwalk_all (g : Nat) (ad : List Dig) (rs : List Rn) (av ev_ : Value) (hn : rs.length ≤ 400001) (hD : Fu.Down (rels rs)) : ∀ i, i < rs.length → RwC g ad rs av ev_ i := by
 have hel : (rels rs).length = rs.length := List.length_map _
 intro i hi
 refine down_ind hD (P := RwC g ad rs av ev_) (fun i x hx IH => ?_) i (by omega)
 have hil := (List.getElem?_eq_some_iff.1 hx).1
 obtain ⟨z, hz⟩ : ∃ z, rs[i]? = some z := ⟨_, List.getElem?_eq_getElem (by omega)⟩
 rw [List.getElem?_map, hz] at hx
 obtain rfl := Option.some.inj hx
 obtain ⟨el, lv, rv⟩ := z
 intro w o lo hR ho hd hl
 exact rwalk_step g ad rs av ev_ i el lv rv hn hD hz (fun c hc hcl => IH c hc (by omega)) w o lo hR ho hd hl
theorem rorder_any (g : Nat) (ad : List Dig) (rs : List Rn) (av ev_ : Value) (w : World) (hR : RtAt w g ad rs av ev_) (hG : Fu.Good (rels rs)) (hn : rs.length ≤ 400001) : Calls Tryz.prog 57 #[.pointer (some ⟨g, 0, none⟩)] w (Ret fun v w' => Own w' TI8 1 v (intC (orderE (rels rs))) ∧ (∀ k, v.ownBlock = some k → w.heap.size ≤ k) ∧ Ext w w') := by
 have hpos := hG.pos
 have hel : (rels rs).length = rs.length := List.length_map _
 have hol : (orderE (rels rs)).length = rs.length := by
  have := hG.perm.length_eq
  rwa [List.length_range, hel] at this
 refine calls_of_CW 5 [2] [(0, .pointer (some ⟨g, 0, none⟩))] Tryz.func57 rfl rfl rfl (by simp) args1 ?_
 have hE : Ext w w := Chg.refl
 refine CW.sr fun K1 hK1 => ?_
 refine WL.a rfl ?_
 refine WL.nil (hK1 _ _ ?_); try clear hK1 K1
 refine CW.sr fun K2 hK2 => ?_
 refine WL.m rfl ?_
 refine WL.call Tryz.func81 rfl rfl rfl (rwalk_all g ad rs av ev_ hn hG.down 0 (by omega) _ (.slice none 0 0) [] (hR.ext hE) Own.nil (fun q h => by simp [Value.ownBlock] at h) (by show 0 + (orderE (rels rs)).length ≤ _; omega)) (by simp) ?_; rintro v4 w1 hR1
 obtain ⟨hO1, hc1, hf1⟩ := hR1
 have hz1 := hc1.size
 have hE := hE.step hc1 (fun q h => by simp [Value.ownBlock] at h)
 rw [List.nil_append] at hO1
 refine WL.a rfl ?_
 refine WL.nil (hK2 _ _ ?_); try clear hK2 K2
 refine CW.ret ⟨_, rfl, ?_⟩
 exact ⟨hO1, (fun k hk => by
  rcases hf1 k hk with h | h
  ·
   simp [Value.ownBlock] at h
  ·
   exact h), hE⟩
set_option maxHeartbeats 1000000 in
theorem rseen_any (g : Nat) (ad : List Dig) (rs : List Rn) (av ev_ : Value) (w : World) (hR : RtAt w g ad rs av ev_) (hG : Fu.Good (rels rs)) (hn : rs.length ≤ 400001) : Calls Tryz.prog 35 #[.pointer (some ⟨g, 0, none⟩)] w (Ret fun v w' => Own w' TI8 1 v (intC (seenE (rels rs))) ∧ (∀ k, v.ownBlock = some k → w.heap.size ≤ k) ∧ Ext w w') := by
 obtain ⟨A, m, c, rfl⟩ := hR.es.lens
 have hsl := hR.sl
 have hel : (rels rs).length = rs.length := List.length_map _
 have hmm : rs.length = m ∧ m ≤ c ∧ c ≤ maxLen := by
  obtain ⟨A', m', c', e, h1, h2, h3, _⟩ := hsl
  injection e with e1 e2 e3
  exact ⟨by omega, by omega, by omega⟩
 unfold maxLen at hmm
 have hat : ∀ i x, rs[i]? = some x → ∃ a, A = some a ∧ Mem w (a.add (i * 38)) (rC x) := fun i x hx => hsl.get hx
 have hxe : ∀ (i : Nat) (x : Rn), rs[i]? = some x → (rels rs)[i]? = some x.el := fun i x hx => by rw [List.getElem?_map, hx]; rfl
 have hpos := hG.pos
 obtain ⟨x0, hx0⟩ : ∃ x, rs[0]? = some x := ⟨_, List.getElem?_eq_getElem (by omega)⟩
 obtain ⟨EA, hEA, _⟩ := hat 0 x0 hx0
 subst hEA
 have hme : ∀ i x, rs[i]? = some x → Mem w (EA.add (i * 38)) (rC x) := fun i x hx => by
  obtain ⟨a, ha, h⟩ := hat i x hx
  cases ha; exact h
 have hol : (orderE (rels rs)).length = rs.length := by
  have := hG.perm.length_eq
  rwa [List.length_range, hel] at this
 have hsn : (seenE (rels rs)).length ≤ 400001 := by
  have : (seenE (rels rs)).length ≤ (orderE (rels rs)).length := List.length_filter_le _ _
  omega
 obtain ⟨ir, hir, hzr, hsr⟩ := info_apiRef
 refine calls_of_CW 34 [2] [(0, .pointer (some ⟨g, 0, none⟩))] Tryz.func35 rfl rfl rfl (by simp) args1 ?_
 have hE : Ext w w := Chg.refl
 refine CW.sr fun K1 hK1 => ?_
 refine WL.a rfl ?_
 refine WL.nil (hK1 _ _ ?_); try clear hK1 K1
 refine CW.sr fun K2 hK2 => ?_
 refine WL.m rfl ?_
 refine WL.call Tryz.func57 rfl rfl rfl (rorder_any g ad rs av _ _ (hR.ext hE) hG hn) (by simp) ?_; rintro v7 w1 hR1
 obtain ⟨hOS, hfS, hxS⟩ := hR1
 have hzS := hxS.size
 obtain ⟨SA, Sm, Sc, rfl⟩ := hOS.lens
 obtain ⟨hlmS, hlgS⟩ := int_map hOS
 have hccS := (hOS.mem SA Sm Sc rfl).2.2.2
 unfold maxLen at hccS
 have hE := hE.thenExt hxS
 refine WL.a rfl ?_
 refine WL.nil (hK2 _ _ ?_); try clear hK2 K2
 refine CW.sr fun K3 hK3 => ?_
 refine WL.a rfl ?_
 refine WL.nil (hK3 _ _ ?_); try clear hK3 K3
 refine CW.seq fun K4 hK4 => ?_
 refine CW.sr fun K5 hK5 => ?_
 refine WL.a rfl ?_
 refine WL.nil (hK5 _ _ ?_); try clear hK5 K5
 refine CW.block ?_
 refine CW.loop (X := Nat × Value) (fun x => [(0, .pointer (some ⟨g, 0, none⟩)), (3, .slice SA Sm Sc), (4, x.2), (5, .int .i64 (x.1 : Int))]) (fun x w0 => x.1 ≤ Sm ∧ Own w0 TI8 1 x.2 (intC (((orderE (rels rs)).take x.1).filter (fun j => !goneAt (rels rs) j))) ∧ (∀ q, x.2.ownBlock = some q → w1.heap.size ≤ q) ∧ Ext w1 w0) (fun x => Sm - x.1) (0, .slice none 0 0) Fr.ok ⟨Nat.zero_le _, Own.nil, (fun q h => by simp [Value.ownBlock] at h), Chg.refl⟩ ?_
 intro x w2 hl2
 obtain ⟨k, u1⟩ := x
 dsimp only at hl2 ⊢
 obtain ⟨hkm, hO, hfr, hE2⟩ := hl2
 have hE := hE.thenExt hE2
 have hz2 := hE2.size
 refine CW.seq fun K6 hK6 => ?_
 refine CW.sr fun K7 hK7 => ?_
 refine WL.m rfl ?_
 refine WL.m rfl ?_
 refine WL.v (Y.len_slice Tryz.underlying23 rfl) ?_
 refine WL.v (Y.lss rfl rfl) ?_
 refine WL.nil (hK7 _ _ ?_); try clear hK7 K7
 (first | refine CW.condD rfl ?_ ?_ | refine CW.condND rfl ?_ ?_ | refine CW.condN rfl ?_ ?_ | refine CW.cond rfl ?_ ?_) <;> intro ht8
 ·
  -- then
  refine CW.skip ?_
  refine hK6 _ _ ?_; try clear hK6 K6
  obtain ⟨q, hqk⟩ : ∃ q, (orderE (rels rs))[k]? = some q := ⟨_, List.getElem?_eq_getElem (by omega)⟩
  obtain ⟨oa, rfl, hmo⟩ := hlgS k q hqk
  have hql : q < rs.length := by have := hG.mem.1 (List.mem_of_getElem? hqk); omega
  obtain ⟨y, hy⟩ : ∃ y, rs[q]? = some y := ⟨_, List.getElem?_eq_getElem hql⟩
  have hye := hxe q y hy
  have hmy := hme q y hy
  have hgy : goneAt (rels rs) q = y.el.gone := goneAt_at hye
  have hts : ((orderE (rels rs)).take (k + 1)).filter (fun j => !goneAt (rels rs) j) = ((orderE (rels rs)).take k).filter (fun j => !goneAt (rels rs) j) ++ if y.el.gone = true then [] else [q] := by
   rw [Go.Pl.take_succ hqk, List.filter_append, List.filter_cons, List.filter_nil, hgy]
   cases y.el.gone <;> rfl
  have hfl : (((orderE (rels rs)).take k).filter (fun j => !goneAt (rels rs) j)).length ≤ k := Nat.le_trans (List.length_filter_le _ _) (by rw [List.length_take]; omega)
  refine CW.seq_to (X := Value) (fun u2 => [(0, .pointer (some ⟨g, 0, none⟩)), (3, .slice (some oa) Sm Sc), (4, u2), (5, .int .i64 (k : Int))]) (fun u2 w0 => Own w0 TI8 1 u2 (intC (((orderE (rels rs)).take (k + 1)).filter (fun j => !goneAt (rels rs) j))) ∧ (∀ q, u2.ownBlock = some q → w1.heap.size ≤ q) ∧ Ext w1 w0) ?_ ?_
  ·
   skip
   refine CW.block ?_
   refine CW.seq fun K10 hK10 => ?_
   refine CW.quiet (fun wq => Ext w2 wq) (by kernel_rfl) (by kernel_rfl) Chg.drew ?_
   refine QL.m rfl ?_
   refine QL.v (fun wq hq => Y.nilCheck rfl) ?_
   refine QL.v (fun wq hq => Y.fieldAddr fo_recensionref08Tree1 rfl) ?_
   refine QL.v (fun wq hq => Y.load1 Tryz.underlying60 rfl (((hR.ext hE).ext hq).blk.mem.recensionref08Tree1) rfl) ?_
   refine QL.m rfl ?_
   refine QL.m rfl ?_
   refine QL.v (fun wq hq => Y.indexAddrN Tryz.underlying23 rfl rfl sz0_int (by omega)) ?_
   refine QL.v (fun wq hq => Y.load1 Tryz.underlying3 rfl (((hmo.ext hE2).ext hq).cell0) rfl) ?_
   refine QL.v (fun wq hq => Y.indexAddrN Tryz.underlying60 rfl rfl sz0_recensionref08Elem (by omega)) ?_
   refine QL.v (fun wq hq => Y.fieldAddr fo_recensionref08Elem2 rfl) ?_
   refine QL.v (fun wq hq => Y.load1 Tryz.underlying4 rfl (((hmy.ext hE).ext hq).recensionref08Elem2) rfl) ?_
   refine QL.v (fun wq hq => Y.not rfl) ?_
   refine QL.nil fun w3 hx3 => ?_
   have hz3 := hx3.size
   have hE := hE.thenExt hx3
   refine hK10 _ _ ?_; try clear hK10 K10
   (first | refine CW.condD rfl ?_ ?_ | refine CW.condND rfl ?_ ?_ | refine CW.condN rfl ?_ ?_ | refine CW.cond rfl ?_ ?_) <;> intro ht11
   ·
    -- then
    refine CW.region ?_
    refine WL.m rfl ?_
    refine WL.m rfl ?_
    refine WL.m rfl ?_
    refine WL.v (Y.indexAddrN Tryz.underlying23 rfl rfl sz0_int (by omega)) ?_
    refine WL.v (Y.load1 Tryz.underlying3 rfl (((hmo.ext hE2).ext hx3).cell0) rfl) ?_
    refine WL.st (St.buildSlice rfl (bs1_int _)) (by decide) fun v31 w4 hR4 => ?_
    obtain ⟨g31, rfl, hg31, hB31, hx4⟩ := hR4
    have hz4 := hx4.size
    have hE4 := (hE2.thenExt hx3).thenExt hx4
    have hzE := hE.size
    refine WL.st (St.append (m := 1) (news := intC [q]) UI UI ai_int rfl rfl ((hO.ext hx3).ext hx4) (Fw.Src.one hB31 rfl) one_intC (by rw [intC_length]; omega)) (by decide) fun v32 w5 hR5 => ?_
    obtain ⟨hO5, hc5, hf5⟩ := hR5
    have hz5 := hc5.size
    rw [← intC_app] at hO5
    refine WL.a rfl ?_
    refine WL.nil ?_
    exact ⟨v32, Fr.ok, (by rw [hts, if_neg (by simp_all)]; exact hO5), (fun b hb => by rcases hf5 with e | e; rw [e] at hb; exact hfr b hb; have := e b hb; omega), hE4.step hc5 (fun b hb => hfr b hb)⟩
   refine CW.skip ?_
   exact ⟨u1, Fr.ok, (by rw [hts, if_pos (by simp_all), List.append_nil]; exact hO.ext hx3), hfr, hE2.thenExt hx3⟩
  rintro u w6 hj6
  obtain ⟨hO, hfr, hE2⟩ := hj6
  have hE := hxS.thenExt hE2
  refine CW.region ?_
  refine WL.m rfl ?_
  refine WL.v (Y.add rfl rfl ⟨by omega, by omega⟩) ?_
  refine WL.a rfl ?_
  refine WL.nil ?_
  exact ⟨(k + 1, u), (by show Sm - (k + 1) < Sm - k; omega), Fr.ok, (by show k + 1 ≤ Sm; omega), hO, hfr, hE2⟩
 refine CW.exit ?_
 refine hK4 _ _ ?_; try clear hK4 K4
 refine CW.sr fun K12 hK12 => ?_
 refine WL.m rfl ?_
 refine WL.a rfl ?_
 refine WL.nil (hK12 _ _ ?_); try clear hK12 K12
 refine CW.ret ⟨_, rfl, ?_⟩
 have hke : (orderE (rels rs)).take k = (orderE (rels rs)) := List.take_of_length_le (by omega)
 rw [hke] at hO
 exact ⟨hO, (fun q hq => by have := hfr q hq; omega), hE⟩
end Go.Proofs.YtjbeooimhoilmaaGreatDoor
/- The document's trees: Gap, Text, walked. No condition. -/
namespace Go.Proofs.YtjbeooimhoilmaaGreatDoor
open Go.RowKit Go.Fw Go.Fu Go.Pl
theorem mi_u8 : MakeInfo Tryz.prog 5 [bc 0] 1 := by
 have h : (Tryz.prog.info? 5).map (fun i => (i.size, i.bytes, i.zero)) = some (1, 1, some (bc 0)) := by kernel_rfl
 obtain ⟨i, hi, h⟩ := Option.map_eq_some_iff.1 h
 injection h with h1 h2
 injection h2 with h2 h3
 exact ⟨i, _, hi, h3, rfl, h1, h2⟩
theorem rep_bytes (m : Nat) : (List.replicate m [bc 0]).flatten = bytesC (List.replicate m 0) := by
 induction m with
 | zero => rfl
 | succ m ih => rw [List.replicate_succ, List.replicate_succ, List.flatten_cons, ih]; rfl
set_option maxRecDepth 100000 in
set_option maxHeartbeats 1000000 in
theorem rtext_any (g : Nat) (ad : List Dig) (rs : List Rn) (av ev_ : Value) (w : World) (hR : RtAt w g ad rs av ev_) (hG : Fu.Good (rels rs)) (hn : rs.length ≤ 400001) : Calls Tryz.prog 18 #[.pointer (some ⟨g, 0, none⟩)] w (Ret fun v w' => v = .string (bs (textE (rels rs))) ∧ Ext w w') := by
 obtain ⟨A, m, c, rfl⟩ := hR.es.lens
 have hsl := hR.sl
 have hel : (rels rs).length = rs.length := List.length_map _
 have hmm : rs.length = m ∧ m ≤ c ∧ c ≤ maxLen := by
  obtain ⟨A', m', c', e, h1, h2, h3, _⟩ := hsl
  injection e with e1 e2 e3
  exact ⟨by omega, by omega, by omega⟩
 unfold maxLen at hmm
 have hat : ∀ i x, rs[i]? = some x → ∃ a, A = some a ∧ Mem w (a.add (i * 38)) (rC x) := fun i x hx => hsl.get hx
 have hxe : ∀ (i : Nat) (x : Rn), rs[i]? = some x → (rels rs)[i]? = some x.el := fun i x hx => by rw [List.getElem?_map, hx]; rfl
 have hpos := hG.pos
 obtain ⟨x0, hx0⟩ : ∃ x, rs[0]? = some x := ⟨_, List.getElem?_eq_getElem (by omega)⟩
 obtain ⟨EA, hEA, _⟩ := hat 0 x0 hx0
 subst hEA
 have hme : ∀ i x, rs[i]? = some x → Mem w (EA.add (i * 38)) (rC x) := fun i x hx => by
  obtain ⟨a, ha, h⟩ := hat i x hx
  cases ha; exact h
 have hol : (orderE (rels rs)).length = rs.length := by
  have := hG.perm.length_eq
  rwa [List.length_range, hel] at this
 have hsn : (seenE (rels rs)).length ≤ 400001 := by
  have : (seenE (rels rs)).length ≤ (orderE (rels rs)).length := List.length_filter_le _ _
  omega
 obtain ⟨ir, hir, hzr, hsr⟩ := info_apiRef
 refine calls_of_CW 33 [2] [(0, .pointer (some ⟨g, 0, none⟩))] Tryz.func18 rfl rfl rfl (by simp) args1 ?_
 have hE : Ext w w := Chg.refl
 refine CW.sr fun K1 hK1 => ?_
 refine WL.a rfl ?_
 refine WL.nil (hK1 _ _ ?_); try clear hK1 K1
 refine CW.sr fun K2 hK2 => ?_
 refine WL.m rfl ?_
 refine WL.call Tryz.func35 rfl rfl rfl (rseen_any g ad rs av _ _ (hR.ext hE) hG hn) (by simp) ?_; rintro v7 w1 hR1
 obtain ⟨hOS, hfS, hxS⟩ := hR1
 have hzS := hxS.size
 obtain ⟨SA, Sm, Sc, rfl⟩ := hOS.lens
 obtain ⟨hlmS, hlgS⟩ := int_map hOS
 have hccS := (hOS.mem SA Sm Sc rfl).2.2.2
 unfold maxLen at hccS
 have hE := hE.thenExt hxS
 refine WL.a rfl ?_
 refine WL.nil (hK2 _ _ ?_); try clear hK2 K2
 refine CW.sr fun K3 hK3 => ?_
 refine WL.m rfl ?_
 refine WL.v (Y.len_slice Tryz.underlying23 rfl) ?_
 refine WL.st (St.makeK (m := Sm) Tryz.underlying91 mi_u8 rfl rfl (by omega) (by omega)) (by decide) fun v10 w2 hR2 => ?_
 obtain ⟨bg, rfl, hbg, hBb, hx2⟩ := hR2
 have hz2 := hx2.size
 rw [rep_bytes] at hBb
 have hE := hE.thenExt hx2
 refine WL.a rfl ?_
 refine WL.nil (hK3 _ _ ?_); try clear hK3 K3
 refine CW.seq fun K4 hK4 => ?_
 refine CW.sr fun K5 hK5 => ?_
 refine WL.a rfl ?_
 refine WL.nil (hK5 _ _ ?_); try clear hK5 K5
 refine CW.block ?_
 refine CW.loop (X := Nat) (fun x => [(0, .pointer (some ⟨g, 0, none⟩)), (3, .slice SA Sm Sc), (4, .slice (some ⟨bg, 0, none⟩) Sm Sm), (5, .int .i64 (x : Int))]) (fun x w0 => x ≤ Sm ∧ Blk w0 bg 5 (bytesC (((seenE (rels rs)).take x).map (byteAt (rels rs)) ++ List.replicate (Sm - x) 0)) ∧ Ext w1 w0) (fun x => Sm - x) 0 Fr.ok ⟨Nat.zero_le _, (by simpa using hBb), hx2⟩ ?_
 intro x w3 hl3
 obtain ⟨hkm, hBb, hL⟩ := hl3
 have hE := hxS.thenExt hL
 have hzL := hL.size
 refine CW.seq fun K6 hK6 => ?_
 refine CW.sr fun K7 hK7 => ?_
 refine WL.m rfl ?_
 refine WL.m rfl ?_
 refine WL.v (Y.len_slice Tryz.underlying23 rfl) ?_
 refine WL.v (Y.lss rfl rfl) ?_
 refine WL.nil (hK7 _ _ ?_); try clear hK7 K7
 (first | refine CW.condD rfl ?_ ?_ | refine CW.condND rfl ?_ ?_ | refine CW.condN rfl ?_ ?_ | refine CW.cond rfl ?_ ?_) <;> intro ht8
 ·
  -- then
  refine CW.skip ?_
  refine hK6 _ _ ?_; try clear hK6 K6
  refine CW.seq fun K9 hK9 => ?_
  refine CW.block ?_
  obtain ⟨q, hqk⟩ : ∃ q, (seenE (rels rs))[x]? = some q := ⟨_, List.getElem?_eq_getElem (by omega)⟩
  obtain ⟨oa, rfl, hmo⟩ := hlgS x q hqk
  have hql : q < rs.length := by have := seen_lt hG.down (List.mem_of_getElem? hqk); omega
  obtain ⟨y, hy⟩ : ∃ y, rs[q]? = some y := ⟨_, List.getElem?_eq_getElem hql⟩
  have hye := hxe q y hy
  have hmy := hme q y hy
  have hsm : Sm - x = (Sm - (x + 1)) + 1 := by omega
  have htl : ((seenE (rels rs)).take x).length = x := by rw [List.length_take]; omega
  refine CW.head 14 (by kernel_rfl) (by kernel_rfl) fun w4 hx4 => ?_
  skip; have hz4 := hx4.size; have hE := hE.thenExt hx4
  refine HL.val (Y.move rfl) (by decide) ?_
  refine HL.val (Y.move rfl) (by decide) ?_
  refine HL.val (Y.move rfl) (by decide) ?_
  refine HL.val (Y.nilCheck rfl) (by decide) ?_
  refine HL.val (Y.fieldAddr fo_recensionref08Tree1 rfl) (by decide) ?_
  refine HL.val (Y.load1 Tryz.underlying60 rfl ((hR.ext hE).blk.mem.recensionref08Tree1) rfl) (by decide) ?_
  refine HL.val (Y.move rfl) (by decide) ?_
  refine HL.val (Y.move rfl) (by decide) ?_
  refine HL.val (Y.indexAddrN Tryz.underlying23 rfl rfl sz0_int (by omega)) (by decide) ?_
  refine HL.val (Y.load1 Tryz.underlying3 rfl ((hmo.ext (hL.thenExt hx4)).cell0) rfl) (by decide) ?_
  refine HL.val (Y.indexAddrN Tryz.underlying60 rfl rfl sz0_recensionref08Elem (by omega)) (by decide) ?_
  refine HL.val (Y.fieldAddr fo_recensionref08Elem1 rfl) (by decide) ?_
  refine HL.val (Y.load1 Tryz.underlying5 rfl ((hmy.ext hE).recensionref08Elem1) rfl) (by decide) ?_
  refine HL.val (Y.indexAddrN Tryz.underlying91 rfl rfl sz0_uint8 (by omega)) (by decide) ?_
  refine HL.nil ?_
  refine WL.store (g := bg) (pre := bytesC (((seenE (rels rs)).take x).map (byteAt (rels rs)))) (old := [bc 0]) (post := bytesC (List.replicate (Sm - (x + 1)) 0)) (new := [.int .u8 (y.el.byte.toNat : Int)]) rfl (by rw [Nat.mul_one, add_zero', bytesC_length, List.length_map, htl]) rfl rfl (by kernel_rfl) (by have h9 := hBb.ext hx4; rw [hsm, List.replicate_succ, bytesC_append] at h9; simpa [bytesC] using h9) (by first | rfl | (simp [digC_length, opC_length]; done) | (simp only [digC_length, opC_length]; omega)) (one1 rfl) (fun w5 hc5 hB5_ => ?_)
  have hz5 := hc5.size; have hE := hE.step hc5 (fun k h => by omega)
  have hL5 : Ext w1 w5 := (hL.thenExt hx4).step hc5 (fun k h => by omega)
  have hBb5 : Blk w5 bg 5 (bytesC (((seenE (rels rs)).take (x + 1)).map (byteAt (rels rs)) ++ List.replicate (Sm - (x + 1)) 0)) := by
   rw [Go.Pl.take_succ hqk, List.map_append, List.map_singleton, byteAt_at hye, bytesC_append, bytesC_append]
   simpa [bytesC, bc] using hB5_
  refine WL.nil (hK9 _ _ ?_); try clear hK9 K9
  refine CW.region ?_
  refine WL.m rfl ?_
  refine WL.v (Y.add rfl rfl ⟨by omega, by omega⟩) ?_
  refine WL.a rfl ?_
  refine WL.nil ?_
  exact ⟨x + 1, (by show Sm - (x + 1) < Sm - x; omega), Fr.ok, (by show x + 1 ≤ Sm; omega), hBb5, hL5⟩
 refine CW.exit ?_
 refine hK4 _ _ ?_; try clear hK4 K4
 refine CW.seq fun K10 hK10 => ?_
 have hxe2 : x = Sm := by omega
 subst hxe2
 rw [Nat.sub_self, List.replicate_zero, List.append_nil, List.take_of_length_le (by omega)] at hBb
 refine CW.region ?_
 refine WL.m rfl ?_
 refine WL.v (Y.bytes_string Tryz.underlying91 Tryz.underlying5 Tryz.underlying9 rfl (l := textE (rels rs)) (by rw [textE, List.length_map]; exact hlmS) (fun _ => ⟨_, rfl, hBb.mem⟩) (fun h => by cases h)) ?_
 refine WL.a rfl ?_
 refine WL.nil (hK10 _ _ ?_); try clear hK10 K10
 refine CW.ret ⟨_, rfl, ?_⟩
 exact ⟨rfl, hE⟩
end Go.Proofs.YtjbeooimhoilmaaGreatDoor
/- The reference's Tree and Merge of histories, walked. No condition. -/
namespace Go.Proofs.YtjbeooimhoilmaaGreatDoor
open Go.RowKit Go.Fw Go.Pl Go.Sort Go.Fu
set_option maxRecDepth 100000 in
set_option maxHeartbeats 4000000 in
theorem rtree9_any (u v0 : Value) (l : List CoV) (ids : List Dig) (w : World) (hl : Hcs w u l) (hd : Sl w digC 32 v0 ids) : Calls Tryz.prog 17 #[u, v0] w (Ret fun v w' => ∃ p, v = .tuple #[.pointer p, .int .i64 (txE (csL l) ids)] ∧ (txE (csL l) ids ≠ 0 → p = none) ∧ (txE (csL l) ids = 0 → ∃ g rs av ev_, p = some ⟨g, 0, none⟩ ∧ RtAt w' g (trH (csL l) ids).ad rs av ev_ ∧ rels rs = (trH (csL l) ids).e ∧ ∀ q, Rp g rs av ev_ q → w.heap.size ≤ q) ∧ Ext w w') := by
 obtain ⟨A2, m2, c2, rfl, hlm, hmc, hcm, hlg⟩ := id hl.sl
 unfold maxLen at hcm
 have hcl : (csL l).length = m2 := by rw [List.length_map]; exact hlm
 refine calls_of_CW 62 [4, 5] [(0, .slice A2 m2 c2), (1, v0)] Tryz.func17 rfl rfl rfl (by simp) args2 ?_
 have hE : Ext w w := Chg.refl
 refine CW.sr fun K1 hK1 => ?_
 refine WL.a rfl ?_
 refine WL.a rfl ?_
 refine WL.nil (hK1 _ _ ?_); try clear hK1 K1
 refine CW.sr fun K2 hK2 => ?_
 refine WL.m rfl ?_
 refine WL.call Tryz.func14 rfl rfl rfl (rread9_any _ l _ hl) (by simp) ?_; rintro v16 w1 hR1
 obtain ⟨A, c, ys, kk, rfl, hN, his_, hkk, hx1⟩ := hR1
 have hz1 := hx1.size
 have hE0 := hx1
 clear hE
 have hE : Ext w1 w1 := Chg.refl
 refine WL.m rfl ?_
 refine WL.v (Y.extract rfl rfl) ?_
 refine WL.v (Y.extract rfl rfl) ?_
 refine WL.v (Y.extract rfl rfl) ?_
 refine WL.a rfl ?_
 refine WL.a rfl ?_
 refine WL.a rfl ?_
 refine WL.nil (hK2 _ _ ?_); try clear hK2 K2
 refine CW.seq fun K3 hK3 => ?_
 refine CW.sr fun K4 hK4 => ?_
 refine WL.m rfl ?_
 refine WL.v (Y.neq rfl rfl) ?_
 refine WL.nil (hK4 _ _ ?_); try clear hK4 K4
 (first | refine CW.condD rfl ?_ ?_ | refine CW.condND rfl ?_ ?_ | refine CW.condN rfl ?_ ?_ | refine CW.cond rfl ?_ ?_) <;> intro ht5
 ·
  -- then
  refine CW.sr fun K6 hK6 => ?_
  refine WL.m rfl ?_
  refine WL.a rfl ?_
  refine WL.a rfl ?_
  refine WL.nil (hK6 _ _ ?_); try clear hK6 K6
  refine CW.ret ⟨_, rfl, ?_⟩
  have he : txE (csL l) ids = (rdH (csL l)).2 := by rw [txE, if_pos (by assumption)]
  exact ⟨none, by rw [he]; rfl, fun _ => rfl, fun h => absurd (he.symm.trans h) (by assumption), hE0.thenExt hE⟩
 refine CW.skip ?_
 refine hK3 _ _ ?_; try clear hK3 K3
 refine CW.seq fun K7 hK7 => ?_
 have h0 : (rdH (csL l)).2 = 0 := Decidable.not_not.1 (by assumption)
 obtain ⟨hl200, hok⟩ := rdH_ok.1 h0
 have his : ndsL ys = ndsH (csL l) := by rw [his_, hkk h0, List.take_of_length_le (by omega)]
 have hyl : ys.length = m2 := by have := congrArg List.length his; rw [← hcl]; simpa using this
 refine CW.region ?_
 refine WL.m rfl ?_
 refine WL.m rfl ?_
 refine WL.call Tryz.func22 rfl rfl rfl (by have h9 := rWrong_any _ _ ys ids _ (hN.ext hE) (hd.ext (hE0.thenExt hE)); rw [his, wrongQ_tx h0] at h9; exact h9) (by simp) ?_; rintro v w2 ⟨rfl, hx2⟩; have hz2 := hx2.size; have hE := hE.thenExt hx2
 refine WL.a rfl ?_
 refine WL.nil (hK7 _ _ ?_); try clear hK7 K7
 refine CW.seq fun K8 hK8 => ?_
 refine CW.sr fun K9 hK9 => ?_
 refine WL.m rfl ?_
 refine WL.v (Y.neq rfl rfl) ?_
 refine WL.nil (hK9 _ _ ?_); try clear hK9 K9
 (first | refine CW.condD rfl ?_ ?_ | refine CW.condND rfl ?_ ?_ | refine CW.condN rfl ?_ ?_ | refine CW.cond rfl ?_ ?_) <;> intro ht10
 ·
  -- then
  refine CW.sr fun K11 hK11 => ?_
  refine WL.m rfl ?_
  refine WL.a rfl ?_
  refine WL.a rfl ?_
  refine WL.nil (hK11 _ _ ?_); try clear hK11 K11
  refine CW.ret ⟨_, rfl, ?_⟩
  exact ⟨none, rfl, fun _ => rfl, fun h => absurd h (by assumption), hE0.thenExt hE⟩
 refine CW.skip ?_
 refine hK8 _ _ ?_; try clear hK8 K8
 refine CW.seq fun K12 hK12 => ?_
 have htx : txE (csL l) ids = 0 := Decidable.not_not.1 (by assumption)
 have hin := (txE_ok.1 htx).2.2
 refine CW.region ?_
 refine WL.m rfl ?_
 refine WL.m rfl ?_
 refine WL.call Tryz.func31 rfl rfl rfl (rAboveH_any _ _ ys (csL l) ids _ (hN.ext hE) his hok hl200 (hd.ext (hE0.thenExt hE)) hin) (by simp) ?_; rintro v31 w3 hR3
 obtain ⟨hO3, hfu3, hx3⟩ := hR3
 have hz3 := hx3.size
 have hE := hE.thenExt hx3
 have hA := hO3.sl digC_length (by decide)
 refine WL.a rfl ?_
 refine WL.nil (hK12 _ _ ?_); try clear hK12 K12
 refine CW.sr fun K13 hK13 => ?_
 refine WL.call Tryz.func32 rfl rfl rfl (rnew_any _) (by simp) ?_; rintro v32 w4 hR4
 obtain ⟨g, ev0, rfl, hg4, hev4, hT, hx4⟩ := hR4
 have hz4 := hx4.size
 have hE := hE.thenExt hx4
 have hfr0 : ∀ q, Rp g [⟨El.root, .slice none 0 0, .slice none 0 0⟩] (.slice none 0 0) ev0 q → w3.heap.size ≤ q := fun q hq => by
  rcases hq with h | h | h | ⟨x, hx, s, h⟩
  ·
   omega
  ·
   simp [Value.ownBlock] at h
  ·
   exact hev4 q h
  ·
   simp at hx; subst hx; cases s <;> simp [Rn.sv, Value.ownBlock] at h
 refine WL.a rfl ?_
 refine WL.nil (hK13 _ _ ?_); try clear hK13 K13
 refine CW.seq fun K14 hK14 => ?_
 refine CW.sr fun K15 hK15 => ?_
 refine WL.a rfl ?_
 refine WL.nil (hK15 _ _ ?_); try clear hK15 K15
 refine CW.block ?_
 refine CW.loop (X := Nat × List Rn × Value × Value) (fun x => [(0, .slice A2 m2 c2), (6, .slice A ys.length c), (10, v31), (11, .pointer (some ⟨g, 0, none⟩)), (12, .int .i64 (x.1 : Int))]) (fun x w0 => x.1 ≤ m2 ∧ RtAt w0 g (trK (csL l) (Under (ndsH (csL l)) ids) x.1).ad x.2.1 x.2.2.1 x.2.2.2 ∧ rels x.2.1 = (trK (csL l) (Under (ndsH (csL l)) ids) x.1).e ∧ (∀ q, Rp g x.2.1 x.2.2.1 x.2.2.2 q → w3.heap.size ≤ q) ∧ Ext w1 w0 ∧ Ext w3 w0) (fun x => m2 - x.1) (0, [⟨El.root, .slice none 0 0, .slice none 0 0⟩], .slice none 0 0, ev0) Fr.ok ⟨Nat.zero_le _, hT, rfl, hfr0, hE, hx4⟩ ?_
 intro x w5 hl5
 clear hE hT
 obtain ⟨k, rs, av, ev_⟩ := x
 dsimp only at hl5 ⊢
 obtain ⟨hkm, hT, hels, hfr, hE, hE3⟩ := hl5
 have hzE := hE.size
 have hzE3 := hE3.size
 refine CW.seq fun K16 hK16 => ?_
 refine CW.sr fun K17 hK17 => ?_
 refine WL.m rfl ?_
 refine WL.m rfl ?_
 refine WL.v (Y.len_slice Tryz.underlying22 rfl) ?_
 refine WL.v (Y.lss rfl rfl) ?_
 refine WL.nil (hK17 _ _ ?_); try clear hK17 K17
 (first | refine CW.condD rfl ?_ ?_ | refine CW.condND rfl ?_ ?_ | refine CW.condN rfl ?_ ?_ | refine CW.cond rfl ?_ ?_) <;> intro ht18
 ·
  -- then
  refine CW.skip ?_
  refine hK16 _ _ ?_; try clear hK16 K16
  obtain ⟨cx, hcx⟩ : ∃ cx, l[k]? = some cx := ⟨_, List.getElem?_eq_getElem (by omega)⟩
  have hco := hl.all cx (List.mem_of_getElem? hcx)
  obtain ⟨a2, rfl, hma2⟩ := hlg _ _ hcx
  obtain ⟨cm, pA, pca, oB, ocb⟩ := cx
  have hos := hco.os
  dsimp only [CoV.pv, CoV.ov, coC] at hos hma2
  have hcc : (csL l)[k]? = some cm := cs_at hcx
  obtain ⟨y, hy⟩ : ∃ y, ys[k]? = some y := ⟨_, List.getElem?_eq_getElem (by omega)⟩
  obtain ⟨⟨yid, yps⟩, yA, yc⟩ := y
  obtain ⟨a3, rfl, hma3⟩ := hN.sl.at hy
  have hyid : yid = idD cm := by
   have h1 : (ndsL ys)[k]? = some ⟨yid, yps⟩ := by simp [hy]
   rw [his, List.getElem?_map, hcc] at h1
   injection h1 with h1
   exact (congrArg Nd.id h1).symm
  subst hyid
  have hcS : idD cm ∈ aboveL (ndsH (csL l)) ids ↔ Under (ndsH (csL l)) ids (idD cm) := above_mem (hok.nodes hl200) (fun d hd => by rw [ids_nds]; exact hin d hd)
  have htk := trK_ok hok hl200 (closed_under (csL l) ids) (k := k) (by omega)
  have hTr : (⟨(trK (csL l) (Under (ndsH (csL l)) ids) k).ad, rels rs⟩ : Tr) = (trK (csL l) (Under (ndsH (csL l)) ids) k) := by rw [hels]
  have had : (trK (csL l) (Under (ndsH (csL l)) ids) k).ad.length < 4398046511104 := by
   rw [htk.ads, List.length_map, selS, List.length_map]
   exact Nat.lt_of_le_of_lt (List.length_filter_le _ _) (by rw [List.length_take]; omega)
  refine CW.seq_to (X := List Rn × Value × Value) (fun u => [(0, .slice (some a2) m2 c2), (6, .slice (some a3) ys.length c), (10, v31), (11, .pointer (some ⟨g, 0, none⟩)), (12, .int .i64 (k : Int))]) (fun u w0 => RtAt w0 g (trK (csL l) (Under (ndsH (csL l)) ids) (k + 1)).ad u.1 u.2.1 u.2.2 ∧ rels u.1 = (trK (csL l) (Under (ndsH (csL l)) ids) (k + 1)).e ∧ (∀ q, Rp g u.1 u.2.1 u.2.2 q → w3.heap.size ≤ q) ∧ Ext w1 w0 ∧ Ext w3 w0) ?_ ?_
  ·
   skip
   refine CW.block ?_
   refine CW.sr fun K20 hK20 => ?_
   refine WL.m rfl ?_
   refine WL.m rfl ?_
   refine WL.m rfl ?_
   refine WL.v (Y.indexAddrN Tryz.underlying37 rfl rfl sz0_apiNode (by omega)) ?_
   refine WL.v (Y.fieldAddr fo_apiNode0 rfl) ?_
   refine WL.v (Y.load Tryz.underlying43 rfl (hma3.ext hE).node0 (sz_apiDigest _) rfl) ?_
   refine WL.call Tryz.func33 rfl rfl rfl (rIn_any _ (aboveL (ndsH (csL l)) ids) (idD cm) _ (hA.ext hE3)) (by simp) ?_; rintro v w6 ⟨rfl, hx6⟩; have hz6 := hx6.size; have hE := hE.thenExt hx6
   refine WL.nil (hK20 _ _ ?_); try clear hK20 K20
   (first | refine CW.condD rfl ?_ ?_ | refine CW.condND rfl ?_ ?_ | refine CW.condN rfl ?_ ?_ | refine CW.cond rfl ?_ ?_) <;> intro ht21
   ·
    -- then
    refine CW.seq fun K22 hK22 => ?_
    refine CW.head 11 (by kernel_rfl) (by kernel_rfl) fun w7 hx7 => ?_
    skip; have hz7 := hx7.size; have hE := hE.thenExt hx7
    refine HL.val (Y.move rfl) (by decide) ?_
    refine HL.val (Y.move rfl) (by decide) ?_
    refine HL.val (Y.move rfl) (by decide) ?_
    refine HL.val (Y.indexAddrN Tryz.underlying37 rfl rfl sz0_apiNode (by omega)) (by decide) ?_
    refine HL.val (Y.fieldAddr fo_apiNode0 rfl) (by decide) ?_
    refine HL.val (Y.load Tryz.underlying43 rfl (hma3.ext hE).node0 (sz_apiDigest _) rfl) (by decide) ?_
    refine HL.val (Y.move rfl) (by decide) ?_
    refine HL.val (Y.move rfl) (by decide) ?_
    refine HL.val (Y.indexAddrN Tryz.underlying22 rfl rfl sz0_apiCommit (by omega)) (by decide) ?_
    refine HL.val (Y.fieldAddr fo_apiCommit3 rfl) (by decide) ?_
    refine HL.val (Y.load1 Tryz.underlying46 rfl (show World.cell? _ _ = some (.slice oB cm.ops.length ocb) from (hma2.ext (hE0.thenExt hE)).com3) rfl) (by decide) ?_
    refine HL.nil ?_
    refine WL.call Tryz.func34 rfl rfl rfl (radd_any g (trK (csL l) (Under (ndsH (csL l)) ids) k).ad rs av ev_ (idD cm) _ cm.ops (selS (Under (ndsH (csL l)) ids) ((csL l).take k)) _ ((hT.ext hx6).ext hx7) (by rw [hTr]; exact htk) had (hos.ext (hE0.thenExt hE)) (fun hne q hq => by
     have h1 := hos.own_lt opC_ne hne q hq
     have h2 := hx1.size
     exact ⟨by omega, fun h => by have := hfr q h; omega⟩)) (by simp) ?_; rintro v57 w8 hR8
    rw [hTr] at hR8
    obtain ⟨rfl, rs2, av2, ev2, hT2, he2, hc8, hf2⟩ := hR8
    have hS := hcS.1 (by assumption)
    have hw0 : wrongC (trK (csL l) (Under (ndsH (csL l)) ids) k) (idD cm) cm.ops = 0 := sel_may hok hl200 (closed_under (csL l) ids) hcc hS htk
    have hz8 := hc8.size
    have hz67 := hx7.size
    have hE := hE.step hc8 (fun q hq => by have := hfr q hq; omega)
    have hE3 := ((hE3.thenExt hx6).thenExt hx7).step hc8 (fun q hq => hfr q hq)
    refine WL.a rfl ?_
    refine WL.nil (hK22 _ _ ?_); try clear hK22 K22
    refine CW.sr fun K23 hK23 => ?_
    refine WL.m rfl ?_
    refine WL.v (Y.neq rfl rfl) ?_
    refine WL.nil (hK23 _ _ ?_); try clear hK23 K23
    (first | refine CW.condD rfl ?_ ?_ | refine CW.condND rfl ?_ ?_ | refine CW.condN rfl ?_ ?_ | refine CW.cond rfl ?_ ?_) <;> intro ht24
    ·
     -- then
     refine CW.sr fun K25 hK25 => ?_
     refine WL.m rfl ?_
     refine WL.a rfl ?_
     refine WL.a rfl ?_
     refine WL.nil (hK25 _ _ ?_); try clear hK25 K25
     refine CW.ret ⟨_, rfl, ?_⟩
     exact absurd hw0 (by assumption)
    refine CW.skip ?_
    refine ⟨(rs2, av2, ev2), Fr.ok, ?_, ?_, fun q hq => ?_, hE, hE3⟩
    ·
     rw [trK_yes hcc hS]; exact hT2
    ·
     rw [trK_yes hcc hS]; exact he2
    ·
     rcases hf2 q hq with h | h
     ·
      exact hfr q h
     ·
      omega
   refine CW.skip ?_
   have hno : ¬ Under (ndsH (csL l)) ids (idD cm) := fun h => absurd (hcS.2 h) (by assumption)
   refine ⟨(rs, av, ev_), Fr.ok, ?_, ?_, hfr, hE, hE3.thenExt hx6⟩
   ·
    rw [trK_no hcc hno]; exact hT.ext hx6
   ·
    rw [trK_no hcc hno]; exact hels
  rintro u w9 hj9
  clear hE hT
  obtain ⟨hT, hels2, hfr2, hE, hE3⟩ := hj9
  refine CW.region ?_
  refine WL.m rfl ?_
  refine WL.v (Y.add rfl rfl ⟨by omega, by omega⟩) ?_
  refine WL.a rfl ?_
  refine WL.nil ?_
  exact ⟨(k + 1, u.1, u.2.1, u.2.2), by show m2 - (k + 1) < m2 - k; omega, Fr.ok, by show k + 1 ≤ m2; omega, hT, hels2, hfr2, hE, hE3⟩
 refine CW.exit ?_
 refine hK14 _ _ ?_; try clear hK14 K14
 refine CW.sr fun K26 hK26 => ?_
 refine WL.m rfl ?_
 refine WL.a rfl ?_
 refine WL.a rfl ?_
 refine WL.nil (hK26 _ _ ?_); try clear hK26 K26
 refine CW.ret ⟨_, rfl, ?_⟩
 have hkl : k = (csL l).length := by omega
 subst hkl
 exact ⟨_, by rw [htx], fun h => absurd htx h, fun _ => ⟨g, rs, av, ev_, rfl, hT, hels, (fun q hq => by have := hfr q hq; omega)⟩, hE0.thenExt hE⟩
end Go.Proofs.YtjbeooimhoilmaaGreatDoor
