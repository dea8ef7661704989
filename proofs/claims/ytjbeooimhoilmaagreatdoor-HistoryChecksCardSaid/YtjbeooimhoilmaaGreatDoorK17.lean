/- Parts of a proof: what its last text leans on. No condition. -/
import Derived.Test.YtjbeooimhoilmaaGreatDoorK07
import Derived.Test.YtjbeooimhoilmaaGreatDoorK10
import Derived.Test.YtjbeooimhoilmaaGreatDoorK14
import Derived.Test.YtjbeooimhoilmaaGreatDoorK16
set_option linter.unusedSimpArgs false
set_option linter.unusedVariables false
/- What is wrong with a commit behind a past: past.wrong, walked. No condition but the table of digest.keys. -/
namespace Go.Proofs.YtjbeooimhoilmaaGreatDoor
open Go.RowKit Go.Fw Go.Pl Go.Sort Go.Fu
theorem far_le {r : RefD} (h : refB r = true) (ho : r.own = false) (hn : 0 < r.n) : r.n ≤ 2000 := by
 rcases refB_kind h ho with e | ⟨e, _⟩
 ·
  rw [e] at hn; cases hn
 ·
  exact (refKind_two e).2.2.1
theorem far_t1 {o f : Bool} {n : Int} (h : (!o) = true) (h2 : 0 < n) : (!f) = true ↔ (o = false ∧ 0 < n) ∧ f = false := by cases o <;> cases f <;> simp_all
theorem far_t2 {o f : Bool} {n : Int} (h2 : ¬ 0 < n) : false = true ↔ (o = false ∧ 0 < n) ∧ f = false := ⟨fun h => (by cases h), fun h => absurd h.1.2 h2⟩
theorem far_t3 {o f : Bool} {n : Int} (h : (!o) = false) : false = true ↔ (o = false ∧ 0 < n) ∧ f = false := ⟨fun h => (by cases h), fun h2 => by rw [h2.1.1] at h; cases h⟩
theorem far_is {r : RefD} (h : refB r = true) (ho : r.own = false) (hn : 0 < r.n) : refKind r = 2 := by
 rcases refB_kind h ho with e | ⟨e, _⟩
 ·
  rw [e] at hn; cases hn
 ·
  exact e
set_option maxRecDepth 100000 in
set_option maxHeartbeats 4000000 in
theorem hwrong_any (A : Option Addr) (c r cl : Nat) (ys : List NdV) (P : List ComD) (A2 : Option Addr) (m2 c2 : Nat) (l : List CoV) (cx : CoV) (w : World) (hP : PaAt w A c r cl ys P) (hk : HOk P) (hlp : P.length ≤ 200) (hl : Hcs w (.slice A2 m2 c2) l) (hPl : P = (csL l).take P.length) (hx : CoAt w cx) (hK : Mem w ⟨0, 0, none⟩ (wds keysL)) : Calls Tryz.prog 44 #[.agg (paC A ys.length c r).toArray, .slice A2 m2 c2, coV cx] w (Ret fun v w' => v = .tuple #[digV (idD cx.c), .int .i64 (hErr P cx.c)] ∧ Ext w w') := by
 obtain ⟨di_, hdi, hdz, _⟩ := info_apiDigest
 obtain ⟨cm, pA, pca, oB, ocb⟩ := cx
 have hps := hx.ps
 have hos := hx.os
 have hcom := hx.com
 dsimp only [CoV.pv, CoV.ov] at hps hos hcom ⊢
 have hpl := hps.lens
 have hol := hos.lens
 have hok := hk.nodes hlp
 obtain ⟨_, _, _, he1_, _, hpc, hpc2, _⟩ := id hps
 cases he1_
 obtain ⟨_, _, _, he2_, _, hoc, hoc2, _⟩ := id hos
 cases he2_
 unfold maxLen at hpc2 hoc2
 refine calls_of_CWct 87 6 32 [7] [(0, .agg (paC A ys.length c r).toArray), (1, .slice A2 m2 c2), (2, .agg (comC (.slice pA cm.parents.length pca) cm.author cm.note (.slice oB cm.ops.length ocb)).toArray)] Tryz.func44 rfl rfl rfl Tryz.underlying43 rfl (by kernel_rfl) (by simp) args3 ?_
 have hE : Ext w w := Chg.refl
 refine CW.sr fun K1 hK1 => ?_
 refine WL.box rfl rfl (by decide) fun g3 w1 hx1 hg3 hB3 => ?_
 have hlt3 := hB3.lt; have hz1 := hx1.size
 have hM3 := hB3.mem; have hz1 := hx1.size; have hE := hE.thenExt hx1
 refine WL.box rfl rfl (by decide) fun g5 w2 hx2 hg5 hB5 => ?_
 have hlt5 := hB5.lt; have hz2 := hx2.size
 have hM5 := hB5.mem; have hz2 := hx2.size; have hE := hE.thenExt hx2; have hB3 := hB3.ext hx2
 refine WL.alloc (hdi) (hdz) rfl (by decide) fun g6 w3 hx3 hg6 hB6 => ?_
 have hlt6 := hB6.lt; have hz3 := hx3.size
 have hM6 := hB6.mem; have hz3 := hx3.size; have hE := hE.thenExt hx3; have hB3 := hB3.ext hx3; have hB5 := hB5.ext hx3
 refine WL.a rfl ?_
 refine WL.nil (hK1 _ _ ?_); try clear hK1 K1
 refine CW.sr fun K2 hK2 => ?_
 refine WL.v (Y.load Tryz.underlying48 rfl hB5.mem (sz_apiCommit _ _ _ _) rfl) ?_
 refine WL.call Tryz.func65 rfl rfl rfl (id_any _ cm _ (hcom.ext hE) (hK.ext hE)) (by simp) ?_; rintro v w4 ⟨rfl, hx4⟩; have hz4 := hx4.size; have hE := hE.thenExt hx4; have hB3 := hB3.ext hx4; have hB5 := hB5.ext hx4; have hB6 := hB6.ext hx4
 refine WL.m rfl ?_
 refine WL.v (Y.extract rfl rfl) ?_
 refine WL.v (Y.extract rfl rfl) ?_
 refine as_apiDigest rfl (by simp) (by decide) fun g8 w5 hx5 hg8 hB8 => ?_
 have hlt8 := hB8.lt; have hz5 := hx5.size
 have hM8 := hB8.mem; have hz5 := hx5.size; have hE := hE.thenExt hx5; have hB3 := hB3.ext hx5; have hB5 := hB5.ext hx5; have hB6 := hB6.ext hx5
 refine WL.a rfl ?_
 refine WL.nil (hK2 _ _ ?_); try clear hK2 K2
 refine CW.seq fun K3 hK3 => ?_
 refine CW.sr fun K4 hK4 => ?_
 refine WL.m rfl ?_
 refine WL.v (Y.neq rfl rfl) ?_
 refine WL.nil (hK4 _ _ ?_); try clear hK4 K4
 (first | refine CW.condD rfl ?_ ?_ | refine CW.condND rfl ?_ ?_ | refine CW.condN rfl ?_ ?_ | refine CW.cond rfl ?_ ?_) <;> intro ht5
 ·
  -- then
  refine CW.sr fun K6 hK6 => ?_
  refine WL.v (Y.load Tryz.underlying43 rfl hB8.mem (sz_apiDigest _) rfl) ?_
  refine WL.m rfl ?_
  refine WL.store (g := g6) (pre := []) (old := digC Dig.zero) (post := []) (new := digC (idD cm)) rfl rfl rfl rfl (sz_apiDigest _) (by simpa using hB6) (by first | rfl | (simp [digC_length, opC_length]; done) | (simp only [digC_length, opC_length]; omega)) (one_digC) (fun w6 hc6 hB6_ => ?_)
  have hz6 := hc6.size; have hE := hE.step hc6 (fun k h => by omega); have hB3 := hB3.chg hc6 (fun h => by omega); have hB5 := hB5.chg hc6 (fun h => by omega); have hB8 := hB8.chg hc6 (fun h => by omega)
  have hB6 : Blk w6 g6 43 (digC (idD cm)) := by simpa using hB6_
  refine WL.a rfl ?_
  refine WL.nil (hK6 _ _ ?_); try clear hK6 K6
  refine CW.ret ?_
  exact ⟨_, _, _, rfl, hB6.mem, digC_length _, rfl, by rw [hErr, if_pos (by assumption)]; rfl, hE⟩
 refine CW.skip ?_
 refine hK3 _ _ ?_; try clear hK3 K3
 refine CW.seq fun K7 hK7 => ?_
 refine CW.sr fun K8 hK8 => ?_
 refine WL.v (Y.fieldAddr fo_historypast1 rfl) ?_
 refine WL.v (Y.load1 Tryz.underlying72 rfl hB3.mem.historypast1 rfl) ?_
 refine WL.v (Y.load Tryz.underlying43 rfl hB8.mem (sz_apiDigest _) rfl) ?_
 refine WL.v (Y.lookupK rfl rfl (hP.map.ext hE)) ?_
 refine WL.m rfl ?_
 refine WL.v (Y.extract rfl rfl) ?_
 refine WL.v (Y.extract rfl rfl) ?_
 refine WL.a rfl ?_
 refine WL.a rfl ?_
 refine WL.nil (hK8 _ _ ?_); try clear hK8 K8
 refine CW.sr fun K9 hK9 => ?_
 refine WL.m rfl ?_
 refine WL.nil (hK9 _ _ ?_); try clear hK9 K9
 (first | refine CW.condD rfl ?_ ?_ | refine CW.condND rfl ?_ ?_ | refine CW.condN rfl ?_ ?_ | refine CW.cond rfl ?_ ?_) <;> intro ht10
 ·
  -- then
  refine CW.sr fun K11 hK11 => ?_
  refine WL.v (Y.load Tryz.underlying43 rfl hB8.mem (sz_apiDigest _) rfl) ?_
  refine WL.store (g := g6) (pre := []) (old := digC Dig.zero) (post := []) (new := digC (idD cm)) rfl rfl rfl rfl (sz_apiDigest _) (by simpa using hB6) (by first | rfl | (simp [digC_length, opC_length]; done) | (simp only [digC_length, opC_length]; omega)) (one_digC) (fun w7 hc7 hB7_ => ?_)
  have hz7 := hc7.size; have hE := hE.step hc7 (fun k h => by omega); have hB3 := hB3.chg hc7 (fun h => by omega); have hB5 := hB5.chg hc7 (fun h => by omega); have hB8 := hB8.chg hc7 (fun h => by omega)
  have hB6 : Blk w7 g6 43 (digC (idD cm)) := by simpa using hB7_
  refine WL.a rfl ?_
  refine WL.nil (hK11 _ _ ?_); try clear hK11 K11
  refine CW.ret ?_
  exact ⟨_, _, _, rfl, hB6.mem, digC_length _, rfl, by rw [hErr, if_neg (by omega), if_pos (by assumption)], hE⟩
 refine CW.skip ?_
 refine hK7 _ _ ?_; try clear hK7 K7
 refine CW.seq fun K12 hK12 => ?_
 refine CW.sr fun K13 hK13 => ?_
 refine WL.v (Y.fieldAddr fo_apiCommit0 rfl) ?_
 refine WL.v (Y.load1 Tryz.underlying24 rfl hB5.mem.com0 rfl) ?_
 refine WL.v (Y.len_slice Tryz.underlying24 rfl) ?_
 refine WL.m rfl ?_
 refine WL.nil (hK13 _ _ ?_); try clear hK13 K13
 refine CW.block ?_
 refine CW.loop (X := Nat) (fun x => [(1, .slice A2 m2 c2), (3, .pointer (some ⟨g3, 0, none⟩)), (5, .pointer (some ⟨g5, 0, none⟩)), (6, .pointer (some ⟨g6, 0, none⟩)), (8, .pointer (some ⟨g8, 0, none⟩)), (38, .slice pA cm.parents.length pca), (39, .int .i64 (cm.parents.length : Int)), (40, .int .i64 (x : Int))]) (fun x w0 => x ≤ cm.parents.length ∧ (∀ (i : Nat) (d : Dig), i < x → cm.parents[i]? = some d → d ∈ idsH P) ∧ Ext w w0 ∧ Blk w0 g3 TPa (paC A ys.length c r) ∧ Blk w0 g5 48 (comC (.slice pA cm.parents.length pca) cm.author cm.note (.slice oB cm.ops.length ocb)) ∧ Blk w0 g6 43 (digC Dig.zero) ∧ Blk w0 g8 43 (digC (idD cm))) (fun x => cm.parents.length - x) 0 Fr.ok ⟨Nat.zero_le _, (fun i d h => by omega), hE, hB3, hB5, hB6, hB8⟩ ?_
 intro x w8 hl8
 clear hE hB3 hB5 hB6 hB8
 obtain ⟨hxm, hpi, hE, hB3, hB5, hB6, hB8⟩ := hl8
 have hzE := hE.size
 have hlt8_ := hB8.lt
 refine CW.sr fun K14 hK14 => ?_
 refine WL.v (Y.lss rfl rfl) ?_
 refine WL.nil (hK14 _ _ ?_); try clear hK14 K14
 refine CW.seq fun K15 hK15 => ?_
 (first | refine CW.condD rfl ?_ ?_ | refine CW.condND rfl ?_ ?_ | refine CW.condN rfl ?_ ?_ | refine CW.cond rfl ?_ ?_) <;> intro ht16
 ·
  -- then
  refine CW.skip ?_
  refine hK15 _ _ ?_; try clear hK15 K15
  refine CW.seq fun K17 hK17 => ?_
  refine CW.block ?_
  refine CW.seq fun K18 hK18 => ?_
  obtain ⟨d, hd⟩ : ∃ d, cm.parents[x]? = some d := ⟨_, List.getElem?_eq_getElem (by omega)⟩
  obtain ⟨a2, rfl, hma2⟩ := hps.at hd
  refine CW.region ?_
  refine WL.v (Y.indexAddrN Tryz.underlying24 rfl rfl sz0_apiDigest (by omega)) ?_
  refine WL.v (Y.load Tryz.underlying43 rfl (hma2.ext hE) (sz_apiDigest _) rfl) ?_
  refine as_apiDigest rfl (by simp) (by decide) fun g13 w9 hx9 hg13 hB13 => ?_
  have hlt13 := hB13.lt; have hz9 := hx9.size
  have hM13 := hB13.mem; have hz9 := hx9.size; have hE := hE.thenExt hx9; have hB3 := hB3.ext hx9; have hB5 := hB5.ext hx9; have hB6 := hB6.ext hx9; have hB8 := hB8.ext hx9
  refine WL.nil (hK18 _ _ ?_); try clear hK18 K18
  refine CW.sr fun K19 hK19 => ?_
  refine WL.v (Y.fieldAddr fo_historypast1 rfl) ?_
  refine WL.v (Y.load1 Tryz.underlying72 rfl hB3.mem.historypast1 rfl) ?_
  refine WL.v (Y.load Tryz.underlying43 rfl hB13.mem (sz_apiDigest _) rfl) ?_
  refine WL.v (Y.lookupK rfl rfl (hP.map.ext hE)) ?_
  refine WL.m rfl ?_
  refine WL.v (Y.extract rfl rfl) ?_
  refine WL.v (Y.extract rfl rfl) ?_
  refine WL.a rfl ?_
  refine WL.a rfl ?_
  refine WL.nil (hK19 _ _ ?_); try clear hK19 K19
  refine CW.sr fun K20 hK20 => ?_
  refine WL.m rfl ?_
  refine WL.v (Y.not rfl) ?_
  refine WL.nil (hK20 _ _ ?_); try clear hK20 K20
  (first | refine CW.condD rfl ?_ ?_ | refine CW.condND rfl ?_ ?_ | refine CW.condN rfl ?_ ?_ | refine CW.cond rfl ?_ ?_) <;> intro ht21
  ·
   -- then
   refine CW.sr fun K22 hK22 => ?_
   refine WL.v (Y.load Tryz.underlying43 rfl hB8.mem (sz_apiDigest _) rfl) ?_
   refine WL.store (g := g6) (pre := []) (old := digC Dig.zero) (post := []) (new := digC (idD cm)) rfl rfl rfl rfl (sz_apiDigest _) (by simpa using hB6) (by first | rfl | (simp [digC_length, opC_length]; done) | (simp only [digC_length, opC_length]; omega)) (one_digC) (fun w10 hc10 hB10_ => ?_)
   have hz10 := hc10.size; have hE := hE.step hc10 (fun k h => by omega); have hB3 := hB3.chg hc10 (fun h => by omega); have hB5 := hB5.chg hc10 (fun h => by omega); have hB8 := hB8.chg hc10 (fun h => by omega); have hB13 := hB13.chg hc10 (fun h => by omega)
   have hB6 : Blk w10 g6 43 (digC (idD cm)) := by simpa using hB10_
   refine WL.a rfl ?_
   refine WL.nil (hK22 _ _ ?_); try clear hK22 K22
   refine CW.ret ?_
   exact ⟨_, _, _, rfl, hB6.mem, digC_length _, rfl, by rw [hErr, if_neg (by omega), if_neg (by assumption), if_pos ⟨d, List.mem_of_getElem? hd, by assumption⟩], hE⟩
  refine CW.skip ?_
  refine hK17 _ _ ?_; try clear hK17 K17
  refine CW.region ?_
  refine WL.v (Y.add rfl rfl ⟨by omega, by omega⟩) ?_
  refine WL.m rfl ?_
  refine WL.nil ?_
  refine ⟨x + 1, by show cm.parents.length - (x + 1) < cm.parents.length - x; omega, Fr.ok, by show x + 1 ≤ cm.parents.length; omega, ?_, hE, hB3, hB5, hB6, hB8⟩
  intro i q hi hq
  by_cases e : i < x
  ·
   exact hpi i q e hq
  ·
   have e2 : i = x := by omega
   subst e2
   rw [hd] at hq; cases hq
   assumption
 refine CW.exit ?_
 refine hK12 _ _ ?_; try clear hK12 K12
 refine CW.seq fun K23 hK23 => ?_
 have hin : ∀ d ∈ cm.parents, d ∈ idsH P := fun d hd => by
  obtain ⟨i, hi⟩ := List.mem_iff_getElem?.1 hd
  exact hpi i d (by have := (List.getElem?_eq_some_iff.1 hi).1; omega) hi
 refine CW.region ?_
 refine WL.v (Y.load Tryz.underlying74 rfl hB3.mem (sz_historypast _ _) rfl) ?_
 refine WL.v (Y.fieldAddr fo_apiCommit0 rfl) ?_
 refine WL.v (Y.load1 Tryz.underlying24 rfl hB5.mem.com0 rfl) ?_
 refine WL.call Tryz.func28 rfl rfl rfl (hbeneath_any A c r cl _ ys cm.parents _ (hP.nds.ext hE) (by rw [hP.is]; exact hok) (by rw [hP.is, ids_nds]; exact hP.map.ext hE) (hps.ext hE) (fun d hd => by rw [hP.is, ids_nds]; exact hin d hd)) (by simp) ?_; rintro v58 w11 hR11
 obtain ⟨ib, rfl, hib, hIn, hx11⟩ := hR11
 have hz11 := hx11.size
 have hE := hE.thenExt hx11
 have hB3 := hB3.ext hx11
 have hB5 := hB5.ext hx11
 have hB6 := hB6.ext hx11
 have hB8 := hB8.ext hx11
 have hm0 : mayI cm = 0 := Decidable.not_not.1 (by assumption)
 have hlti := hIn.lt
 refine as_historyversion rfl (by simp) (by decide) fun g16 w12 hx12 hg16 hB16 => ?_
 have hlt16 := hB16.lt; have hz12 := hx12.size
 have hM16 := hB16.mem; have hz12 := hx12.size; have hE := hE.thenExt hx12; have hB3 := hB3.ext hx12; have hB5 := hB5.ext hx12; have hB6 := hB6.ext hx12; have hB8 := hB8.ext hx12
 refine WL.nil (hK23 _ _ ?_); try clear hK23 K23
 refine CW.seq fun K24 hK24 => ?_
 refine CW.sr fun K25 hK25 => ?_
 refine WL.v (Y.fieldAddr fo_apiCommit3 rfl) ?_
 refine WL.v (Y.load1 Tryz.underlying46 rfl hB5.mem.com3 rfl) ?_
 refine WL.v (Y.len_slice Tryz.underlying46 rfl) ?_
 refine WL.m rfl ?_
 refine WL.nil (hK25 _ _ ?_); try clear hK25 K25
 refine CW.block ?_
 refine CW.loop (X := Nat) (fun x => [(1, .slice A2 m2 c2), (3, .pointer (some ⟨g3, 0, none⟩)), (5, .pointer (some ⟨g5, 0, none⟩)), (6, .pointer (some ⟨g6, 0, none⟩)), (8, .pointer (some ⟨g8, 0, none⟩)), (16, .pointer (some ⟨g16, 0, none⟩)), (60, .slice oB cm.ops.length ocb), (61, .int .i64 (cm.ops.length : Int)), (62, .int .i64 (x : Int))]) (fun x w0 => x ≤ cm.ops.length ∧ (∀ (i : Nat) (o : OpD), i < x → cm.ops[i]? = some o → refKind o.at_ = 2 → fndB P cm.parents o.at_ = true) ∧ Ext w w0 ∧ Blk w0 g3 TPa (paC A ys.length c r) ∧ Blk w0 g5 48 (comC (.slice pA cm.parents.length pca) cm.author cm.note (.slice oB cm.ops.length ocb)) ∧ Blk w0 g6 43 (digC Dig.zero) ∧ Blk w0 g8 43 (digC (idD cm)) ∧ Blk w0 g16 TVe (veC A ys.length c r ib) ∧ Blk w0 ib TBo (boolC (markF (ndsL ys) cm.parents))) (fun x => cm.ops.length - x) 0 Fr.ok ⟨Nat.zero_le _, (fun i d h => by omega), hE, hB3, hB5, hB6, hB8, hB16, hIn.ext hx12⟩ ?_
 intro x w13 hl13
 clear hE hB3 hB5 hB6 hB8 hB16 hIn
 obtain ⟨hxm, hfi, hE, hB3, hB5, hB6, hB8, hB16, hIn⟩ := hl13
 have hzE := hE.size
 have hlt8_ := hB8.lt
 have hlt16_ := hB16.lt
 have hlti_ := hIn.lt
 refine CW.sr fun K26 hK26 => ?_
 refine WL.v (Y.lss rfl rfl) ?_
 refine WL.nil (hK26 _ _ ?_); try clear hK26 K26
 refine CW.seq fun K27 hK27 => ?_
 (first | refine CW.condD rfl ?_ ?_ | refine CW.condND rfl ?_ ?_ | refine CW.condN rfl ?_ ?_ | refine CW.cond rfl ?_ ?_) <;> intro ht28
 ·
  -- then
  refine CW.skip ?_
  refine hK27 _ _ ?_; try clear hK27 K27
  refine CW.seq fun K29 hK29 => ?_
  refine CW.block ?_
  refine CW.seq fun K30 hK30 => ?_
  obtain ⟨o, ho⟩ : ∃ o, cm.ops[x]? = some o := ⟨_, List.getElem?_eq_getElem (by omega)⟩
  obtain ⟨a2, rfl, hma2⟩ := hos.at ho
  have hro := right_op ho ((mayI_ok hm0).right x (by omega))
  refine CW.region ?_
  refine WL.v (Y.indexAddrN Tryz.underlying46 rfl rfl sz0_apiOp (by omega)) ?_
  refine WL.v (Y.load Tryz.underlying70 rfl (hma2.ext hE) (sz_apiOp _) rfl) ?_
  refine as_apiOp rfl (by simp) (by decide) fun g18 w14 hx14 hg18 hB18 => ?_
  have hlt18 := hB18.lt; have hz14 := hx14.size
  have hM18 := hB18.mem; have hz14 := hx14.size; have hE := hE.thenExt hx14; have hB3 := hB3.ext hx14; have hB5 := hB5.ext hx14; have hB6 := hB6.ext hx14; have hB8 := hB8.ext hx14; have hB16 := hB16.ext hx14
  refine WL.nil (hK30 _ _ ?_); try clear hK30 K30
  refine CW.seq_testE 83 ((o.at_.own = false ∧ 0 < o.at_.n) ∧ fndB P cm.parents o.at_ = false) ?_ ?_
  ·
   refine CW.region ?_
   refine WL.v (Y.fieldAddr fo_apiOp2 rfl) ?_
   refine WL.v (Y.fieldAddr fo_apiRef0 rfl) ?_
   refine WL.v (Y.load1 Tryz.underlying4 rfl hB18.mem.op2.ref0 rfl) ?_
   refine WL.v (Y.not rfl) ?_
   refine WL.m rfl ?_
   (first | refine WL.casesD (d := 70) rfl ?_ ?_ | refine WL.casesND (d := 70) rfl ?_ ?_ | refine WL.cases (d := 70) rfl ?_ ?_) <;> intro hg70
   ·
    -- t70 = T
    refine WL.g rfl rfl (Y.fieldAddr fo_apiOp2 rfl) ?_
    refine WL.g rfl rfl (Y.fieldAddr fo_apiRef2 rfl) ?_
    refine WL.g rfl rfl (Y.load1 Tryz.underlying3 rfl hB18.mem.op2.ref2 rfl) ?_
    refine WL.g rfl rfl (Y.gtr rfl rfl) ?_
    refine WL.v (Y.pick rfl rfl) ?_
    refine WL.m rfl ?_
    (first | refine WL.casesD (d := 76) rfl ?_ ?_ | refine WL.casesND (d := 76) rfl ?_ ?_ | refine WL.cases (d := 76) rfl ?_ ?_) <;> intro hg76
    ·
     -- t76 = T
     refine WL.g rfl rfl (Y.load Tryz.underlying83 rfl hB16.mem (sz_historyversion _ _ _) rfl) ?_
     refine WL.g rfl rfl (Y.move rfl) ?_
     refine WL.g rfl rfl (Y.fieldAddr fo_apiOp2 rfl) ?_
     refine WL.g rfl rfl (Y.load Tryz.underlying68 rfl hB18.mem.op2 (sz_apiRef _) rfl) ?_
     refine WL.gcall rfl rfl Tryz.func66 rfl rfl rfl (hfinds_any A c r cl ib ys P cm.parents A2 m2 c2 l o.at_ _ (hP.ext hE) (hIn.ext hx14) (hl.ext hE) hPl ⟨by omega, far_le hro.ref (by simpa using hg70) (by omega)⟩) (by decide) ?_; rintro v w15 ⟨rfl, hx15⟩; have hz15 := hx15.size; have hE := hE.thenExt hx15; have hB3 := hB3.ext hx15; have hB5 := hB5.ext hx15; have hB6 := hB6.ext hx15; have hB8 := hB8.ext hx15; have hB16 := hB16.ext hx15; have hB18 := hB18.ext hx15
     refine WL.g rfl rfl (Y.not rfl) ?_
     refine WL.v (Y.pick rfl rfl) ?_
     refine WL.nil ⟨⟨_, rfl, ?_⟩, hx15, Fr.okp⟩
     first | exact far_t1 hg70 hg76 | exact far_t2 hg76 | exact far_t3 hg70
    ·
     -- t76 = F
     refine WL.o rfl rfl ?_
     refine WL.o rfl rfl ?_
     refine WL.o rfl rfl ?_
     refine WL.o rfl rfl ?_
     refine WL.o rfl rfl ?_
     refine WL.o rfl rfl ?_
     refine WL.v (Y.pick rfl rfl) ?_
     refine WL.nil ⟨⟨_, rfl, ?_⟩, Chg.refl, Fr.okp⟩
     first | exact far_t1 hg70 hg76 | exact far_t2 hg76 | exact far_t3 hg70
   ·
    -- t70 = F
    refine WL.o rfl rfl ?_
    refine WL.o rfl rfl ?_
    refine WL.o rfl rfl ?_
    refine WL.o rfl rfl ?_
    refine WL.v (Y.pick rfl rfl) ?_
    refine WL.m rfl ?_
    refine WL.o rfl rfl ?_
    refine WL.o rfl rfl ?_
    refine WL.o rfl rfl ?_
    refine WL.o rfl rfl ?_
    refine WL.o rfl rfl ?_
    refine WL.o rfl rfl ?_
    refine WL.v (Y.pick rfl rfl) ?_
    refine WL.nil ⟨⟨_, rfl, ?_⟩, Chg.refl, Fr.okp⟩
    first | exact far_t1 hg70 hg76 | exact far_t2 hg76 | exact far_t3 hg70
  intro w16 hx16; have hz16 := hx16.size; have hE := hE.thenExt hx16; have hB3 := hB3.ext hx16; have hB5 := hB5.ext hx16; have hB6 := hB6.ext hx16; have hB8 := hB8.ext hx16; have hB16 := hB16.ext hx16; have hB18 := hB18.ext hx16
  (first | refine CW.condD rfl ?_ ?_ | refine CW.condND rfl ?_ ?_ | refine CW.condN rfl ?_ ?_ | refine CW.cond rfl ?_ ?_) <;> intro ht31
  ·
   -- then
   refine CW.sr fun K32 hK32 => ?_
   refine WL.v (Y.load Tryz.underlying43 rfl hB8.mem (sz_apiDigest _) rfl) ?_
   refine WL.store (g := g6) (pre := []) (old := digC Dig.zero) (post := []) (new := digC (idD cm)) rfl rfl rfl rfl (sz_apiDigest _) (by simpa using hB6) (by first | rfl | (simp [digC_length, opC_length]; done) | (simp only [digC_length, opC_length]; omega)) (one_digC) (fun w17 hc17 hB17_ => ?_)
   have hz17 := hc17.size; have hE := hE.step hc17 (fun k h => by omega); have hB3 := hB3.chg hc17 (fun h => by omega); have hB5 := hB5.chg hc17 (fun h => by omega); have hB8 := hB8.chg hc17 (fun h => by omega); have hB16 := hB16.chg hc17 (fun h => by omega); have hB18 := hB18.chg hc17 (fun h => by omega)
   have hB6 : Blk w17 g6 43 (digC (idD cm)) := by simpa using hB17_
   refine WL.a rfl ?_
   refine WL.nil (hK32 _ _ ?_); try clear hK32 K32
   refine CW.ret ?_
   exact ⟨_, _, _, rfl, hB6.mem, digC_length _, rfl, by rw [hErr, if_neg (by omega), if_neg (by assumption), if_neg (by rintro ⟨p, hp, hn⟩; exact hn (hin p hp)), if_pos ⟨o, List.mem_of_getElem? ho, far_is hro.ref ht31.1.1 ht31.1.2, ht31.2⟩], hE⟩
  refine CW.skip ?_
  refine hK29 _ _ ?_; try clear hK29 K29
  refine CW.region ?_
  refine WL.v (Y.add rfl rfl ⟨by omega, by omega⟩) ?_
  refine WL.m rfl ?_
  refine WL.nil ?_
  refine ⟨x + 1, by show cm.ops.length - (x + 1) < cm.ops.length - x; omega, Fr.ok, by show x + 1 ≤ cm.ops.length; omega, ?_, hE, hB3, hB5, hB6, hB8, hB16, (hIn.ext hx14).ext hx16⟩
  intro i q hi hq hr
  by_cases e : i < x
  ·
   exact hfi i q e hq hr
  ·
   have e2 : i = x := by omega
   subst e2
   rw [ho] at hq; cases hq
   cases hf : fndB P cm.parents o.at_ with
   | true => rfl
   | false => exact absurd ⟨⟨(refKind_two hr).1, by have := (refKind_two hr).2.1; omega⟩, hf⟩ ht31
 refine CW.exit ?_
 refine hK24 _ _ ?_; try clear hK24 K24
 refine CW.sr fun K33 hK33 => ?_
 refine WL.v (Y.load Tryz.underlying43 rfl hB8.mem (sz_apiDigest _) rfl) ?_
 refine WL.store (g := g6) (pre := []) (old := digC Dig.zero) (post := []) (new := digC (idD cm)) rfl rfl rfl rfl (sz_apiDigest _) (by simpa using hB6) (by first | rfl | (simp [digC_length, opC_length]; done) | (simp only [digC_length, opC_length]; omega)) (one_digC) (fun w18 hc18 hB18_ => ?_)
 have hz18 := hc18.size; have hE := hE.step hc18 (fun k h => by omega); have hB3 := hB3.chg hc18 (fun h => by omega); have hB5 := hB5.chg hc18 (fun h => by omega); have hB8 := hB8.chg hc18 (fun h => by omega); have hB16 := hB16.chg hc18 (fun h => by omega)
 have hB6 : Blk w18 g6 43 (digC (idD cm)) := by simpa using hB18_
 refine WL.a rfl ?_
 refine WL.nil (hK33 _ _ ?_); try clear hK33 K33
 refine CW.ret ?_
 exact ⟨_, _, _, rfl, hB6.mem, digC_length _, rfl, by rw [hErr, if_neg (by omega), if_neg (by assumption), if_neg (by rintro ⟨p, hp, hn⟩; exact hn (hin p hp)), if_neg (by
   rintro ⟨o, ho, hr, hf⟩
   obtain ⟨i, hi⟩ := List.mem_iff_getElem?.1 ho
   rw [hfi i o (by have := (List.getElem?_eq_some_iff.1 hi).1; omega) hi hr] at hf
   cases hf)], hE⟩
end Go.Proofs.YtjbeooimhoilmaaGreatDoor
/- Building structs out of parts of several cells; what the api's references are built of. No condition. -/
namespace Go.Fw
open Go.RowKit Go.Fu
def nodeC (x : El) (lv rv : Value) : List Value := refC x.name ++ [bc x.byte, .bool x.gone, lv, rv]
theorem nodeC_length (x : El) (lv rv : Value) : (nodeC x lv rv).length = 38 := by simp [nodeC, refC_length]
def side (x : El) (s : Bool) : List Nat := cond s x.left x.right
theorem Sl.get {α : Type} {w : World} {enc : α → List Value} {k : Nat} {A : Option Addr} {m c : Nat} {xs : List α} (h : Sl w enc k (.slice A m c) xs) {i : Nat} {x : α} (hx : xs[i]? = some x) : ∃ a, A = some a ∧ Mem w (a.add (i * k)) (enc x) := by
 obtain ⟨A', m', c', e, _, _, _, hls⟩ := h
 injection e with e1
 subst e1
 exact hls i x hx
theorem Own.kind {w : World} {e : TypeId} {k : Nat} {v : Value} {xs : List Value} (h : Own w e k v xs) {g : Nat} (hg : v.ownBlock = some g) : ∃ cs fz, w.heap[g]? = some (.cells cs e fz) := by
 rcases h with ⟨rfl, _⟩ | ⟨g', n, cap, rest, fz, rfl, hh, _⟩
 ·
  simp [Value.ownBlock] at hg
 ·
  simp [Value.ownBlock] at hg; subst hg; exact ⟨_, _, hh⟩
theorem fold_set (off : Nat) : ∀ (new : List Value) (k : Nat) (pre old post : List Value), old.length = new.length → pre.length = off + k →
  (new.zipIdx k).foldl (fun (cs : Array Value) p => cs.setIfInBounds (off + p.2) p.1) (pre ++ old ++ post).toArray = (pre ++ new ++ post).toArray
 | [], k, pre, old, post, h, _ => by
  have : old = [] := List.length_eq_zero_iff.1 h
  subst this; rfl
 | v :: new, k, pre, [], post, h, _ => by simp at h
 | v :: new, k, pre, o :: old, post, h, hp => by
  rw [List.zipIdx_cons, List.foldl_cons]
  have e1 : (pre ++ (o :: old) ++ post).toArray.setIfInBounds (off + k) v = ((pre ++ [v]) ++ old ++ post).toArray := by
   rw [List.setIfInBounds_toArray, ← hp]; simp
  show List.foldl _ ((pre ++ (o :: old) ++ post).toArray.setIfInBounds (off + k) v) _ = _
  rw [e1, fold_set off new (k + 1) (pre ++ [v]) old post (by simpa using h) (by simp [hp]; omega)]
  simp
theorem fill_step {place : Nat → Option (Nat × Nat)} {i off : Nat} {v : Value} {rest : List (Nat × Value)} (pre old post new : List Value) (hp : place i = some (off, new.length)) (hv : v.cells = new.toArray) (hl : old.length = new.length) (ho : pre.length = off) :
  Instr.fill place (pre ++ old ++ post).toArray ((i, v) :: rest) = Instr.fill place (pre ++ new ++ post).toArray rest := by
 rw [Instr.fill, hp, hv]
 simp only
 rw [if_neg (by simp; omega)]
 congr 1
 have := fold_set off new 0 pre old post hl (by omega)
 rw [← this, ← Array.foldl_toList, Array.toList_zipIdx]
end Go.Fw
namespace Go.Proofs.YtjbeooimhoilmaaGreatDoor
open Go.RowKit Go.Fw
theorem built_ref (parts : List (Nat × Value)) : Tryz.prog.built 68 parts = Instr.fill (fun i => #[(0, 1), (1, 32), (33, 1)][i]?) (refC RefD.zero).toArray parts := by kernel_rfl
theorem build_ref2 (d : Dig) (n : Int) (w : World) : (Instr.build 68 [(1, digV d), (2, Value.int .i64 n)].toArray).run Tryz.prog w = .ok (refV ⟨false, d, n⟩) w := run_build w _ _ _ (by
 show Tryz.prog.built _ [(1, digV d), (2, Value.int .i64 n)] = _
 rw [built_ref]
 have e0 : refC RefD.zero = [Value.bool false] ++ digC Dig.zero ++ [.int .i64 0] := rfl
 rw [e0, fill_step [Value.bool false] (digC Dig.zero) [.int .i64 0] (digC d) (by rw [digC_length]; rfl) rfl (by rw [digC_length, digC_length]) rfl]
 have e1 : [Value.bool false] ++ digC d ++ [.int .i64 0] = ([Value.bool false] ++ digC d) ++ [.int .i64 0] ++ [] := by simp
 rw [e1, fill_step ([Value.bool false] ++ digC d) [.int .i64 0] [] [.int .i64 n] rfl rfl rfl (by rw [List.length_append, digC_length]; rfl), Instr.fill]
 simp [refV, refC])
end Go.Proofs.YtjbeooimhoilmaaGreatDoor
