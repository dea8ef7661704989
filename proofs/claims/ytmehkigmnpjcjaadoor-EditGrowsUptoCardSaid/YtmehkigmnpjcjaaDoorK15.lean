/- Parts of a proof: what its last text leans on. No condition. -/
import Derived.Test.YtmehkigmnpjcjaaDoorK06
import Derived.Test.YtmehkigmnpjcjaaDoorK08
import Derived.Test.YtmehkigmnpjcjaaDoorK12
import Derived.Test.YtmehkigmnpjcjaaDoorK14
set_option linter.unusedSimpArgs false
set_option linter.unusedVariables false
/- What is wrong with a commit behind a past: past.wrong, walked. No condition but the table of digest.keys. -/
namespace Go.Proofs.YtmehkigmnpjcjaaDoor
open Go.RowKit Go.Fw Go.Pl Go.Sort Go.Fu
theorem far_le {r : RefD} (h : refB r = true) (ho : r.own = false) (hn : 0 < r.n) : r.n ≤ 2000 := by
 rcases refB_kind h ho with e | ⟨e, _⟩
 ·
  rw [e] at hn; cases hn
 ·
  exact (refKind_two e).2.2.1
theorem far_t1 {o f : Bool} {n : Int} (h : (!o) = true) (h2 : 0 < n) : (!f) = true ↔ (o = false ∧ 0 < n) ∧ f = false := by cases o <;> cases f <;> simp_all
theorem far_t2 {o f : Bool} {n : Int} (h2 : ¬ 0 < n) : false = true ↔ (o = false ∧ 0 < n) ∧ f = false := ⟨fun h => (by cases h), fun h => absurd h.1.2 h2⟩
theorem far_t3 {o f : Bool} {n : Int} (h : (!o) = false) : false = true ↔ (o = false ∧ 0 < n) ∧ f = false := ⟨fun h => (by cases h), fun h2 => by rw [h2.1.1] at h; cases h⟩
theorem far_is {r : RefD} (h : refB r = true) (ho : r.own = false) (hn : 0 < r.n) : refKind r = 2 := by
 rcases refB_kind h ho with e | ⟨e, _⟩
 ·
  rw [e] at hn; cases hn
 ·
  exact e
set_option maxRecDepth 100000 in
set_option maxHeartbeats 4000000 in
theorem hwrong_any (A : Option Addr) (c r cl : Nat) (ys : List NdV) (P : List ComD) (A2 : Option Addr) (m2 c2 : Nat) (l : List CoV) (cx : CoV) (w : World) (hP : PaAt w A c r cl ys P) (hk : HOk P) (hlp : P.length ≤ 200) (hl : Hcs w (.slice A2 m2 c2) l) (hPl : P = (csL l).take P.length) (hx : CoAt w cx) (hK : Mem w ⟨0, 0, none⟩ (wds keysL)) : Calls Tryd.prog 47 #[.agg (paC A ys.length c r).toArray, .slice A2 m2 c2, coV cx] w (Ret fun v w' => v = .tuple #[digV (idD cx.c), .int .i64 (hErr P cx.c)] ∧ Ext w w') := by
 obtain ⟨di_, hdi, hdz, _⟩ := info_apiDigest
 obtain ⟨cm, pA, pca, oB, ocb⟩ := cx
 have hps := hx.ps
 have hos := hx.os
 have hcom := hx.com
 dsimp only [CoV.pv, CoV.ov] at hps hos hcom ⊢
 have hpl := hps.lens
 have hol := hos.lens
 have hok := hk.nodes hlp
 obtain ⟨_, _, _, he1_, _, hpc, hpc2, _⟩ := id hps
 cases he1_
 obtain ⟨_, _, _, he2_, _, hoc, hoc2, _⟩ := id hos
 cases he2_
 unfold maxLen at hpc2 hoc2
 refine calls_of_CWct 87 6 32 [7] [(0, .agg (paC A ys.length c r).toArray), (1, .slice A2 m2 c2), (2, .agg (comC (.slice pA cm.parents.length pca) cm.author cm.note (.slice oB cm.ops.length ocb)).toArray)] Tryd.func47 rfl rfl rfl Tryd.underlying36 rfl kr_ (by simp) args3 ?_
 have hE : Ext w w := Chg.refl
 refine CW.sr fun K1 hK1 => ?_
 refine WL.box rfl rfl de_ fun g3 w1 hx1 hg3 hB3 => ?_
 have hlt3 := hB3.lt; have hz1 := hx1.size
 have hM3 := hB3.mem; have hz1 := hx1.size; have hE := hE.thenExt hx1
 refine WL.box rfl rfl de_ fun g5 w2 hx2 hg5 hB5 => ?_
 have hlt5 := hB5.lt; have hz2 := hx2.size
 have hM5 := hB5.mem; have hz2 := hx2.size; have hE := hE.thenExt hx2; have hB3 := hB3.ext hx2
 refine WL.alloc (hdi) (hdz) rfl de_ fun g6 w3 hx3 hg6 hB6 => ?_
 have hlt6 := hB6.lt; have hz3 := hx3.size
 have hM6 := hB6.mem; have hz3 := hx3.size; have hE := hE.thenExt hx3; have hB3 := hB3.ext hx3; have hB5 := hB5.ext hx3
 refine WL.a rfl ?_
 refine WL.nil (hK1 _ _ ?_); try clear hK1
 refine CW.sr fun K2 hK2 => ?_
 refine WL.v (Y.load Tryd.underlying29 rfl hB5.mem (sz_apiCommit _ _ _ _) rfl) ?_
 refine WL.call Tryd.func8 rfl rfl rfl (id_any _ cm _ (hcom.ext hE) (hK.ext hE)) (by simp) ?_; rintro v w4 ⟨rfl, hx4⟩; have hz4 := hx4.size; have hE := hE.thenExt hx4; have hB3 := hB3.ext hx4; have hB5 := hB5.ext hx4; have hB6 := hB6.ext hx4
 refine WL.m rfl ?_
 refine WL.v (Y.extract rfl rfl) ?_
 refine WL.v (Y.extract rfl rfl) ?_
 refine as_apiDigest rfl (by simp) de_ fun g8 w5 hx5 hg8 hB8 => ?_
 have hlt8 := hB8.lt; have hz5 := hx5.size
 have hM8 := hB8.mem; have hz5 := hx5.size; have hE := hE.thenExt hx5; have hB3 := hB3.ext hx5; have hB5 := hB5.ext hx5; have hB6 := hB6.ext hx5
 refine WL.a rfl ?_
 refine WL.nil (hK2 _ _ ?_); try clear hK2
 refine CW.seq fun K3 hK3 => ?_
 refine CW.sr fun K4 hK4 => ?_
 refine WL.m rfl ?_
 refine WL.v (Y.neq rfl rfl) ?_
 refine WL.nil (hK4 _ _ ?_); try clear hK4
 (first | refine cd_ rfl ?_ ?_ | refine ce_ rfl ?_ ?_ | refine cn_ rfl ?_ ?_ | refine cb_ rfl ?_ ?_) <;> intro ht5
 ·
  -- then
  refine CW.sr fun K6 hK6 => ?_
  refine WL.v (Y.load Tryd.underlying36 rfl hB8.mem (sz_apiDigest _) rfl) ?_
  refine WL.m rfl ?_
  refine WL.store (g := g6) (pre := []) (old := digC Dig.zero) (post := []) (new := digC (idD cm)) rfl rfl rfl rfl (sz_apiDigest _) (by simpa using hB6) ln_ (one_digC) (fun w6 hc6 hB6_ => ?_)
  have hz6 := hc6.size; have hE := hE.step hc6 (fun k h => by omega); have hB3 := hB3.chg hc6 no_; have hB5 := hB5.chg hc6 no_; have hB8 := hB8.chg hc6 no_
  have hB6 : Blk w6 g6 36 (digC (idD cm)) := by simpa using hB6_
  refine WL.a rfl ?_
  refine WL.nil (hK6 _ _ ?_); try clear hK6
  refine CW.ret ?_
  exact ⟨_, _, _, rfl, hB6.mem, digC_length _, rfl, by rw [hErr, if_pos (by assumption)]; rfl, hE⟩
 refine CW.skip ?_
 refine hK3 _ _ ?_; try clear hK3
 refine CW.seq fun K7 hK7 => ?_
 refine CW.sr fun K8 hK8 => ?_
 refine WL.v (Y.fieldAddr fo_historypast1 rfl) ?_
 refine WL.v (Y.load1 Tryd.underlying73 rfl hB3.mem.historypast1 rfl) ?_
 refine WL.v (Y.load Tryd.underlying36 rfl hB8.mem (sz_apiDigest _) rfl) ?_
 refine WL.v (Y.lookupK rfl rfl (hP.map.ext hE)) ?_
 refine WL.m rfl ?_
 refine WL.v (Y.extract rfl rfl) ?_
 refine WL.v (Y.extract rfl rfl) ?_
 refine WL.a rfl ?_
 refine WL.a rfl ?_
 refine WL.nil (hK8 _ _ ?_); try clear hK8
 refine CW.sr fun K9 hK9 => ?_
 refine WL.m rfl ?_
 refine WL.nil (hK9 _ _ ?_); try clear hK9
 (first | refine cd_ rfl ?_ ?_ | refine ce_ rfl ?_ ?_ | refine cn_ rfl ?_ ?_ | refine cb_ rfl ?_ ?_) <;> intro ht10
 ·
  -- then
  refine CW.sr fun K11 hK11 => ?_
  refine WL.v (Y.load Tryd.underlying36 rfl hB8.mem (sz_apiDigest _) rfl) ?_
  refine WL.store (g := g6) (pre := []) (old := digC Dig.zero) (post := []) (new := digC (idD cm)) rfl rfl rfl rfl (sz_apiDigest _) (by simpa using hB6) ln_ (one_digC) (fun w7 hc7 hB7_ => ?_)
  have hz7 := hc7.size; have hE := hE.step hc7 (fun k h => by omega); have hB3 := hB3.chg hc7 no_; have hB5 := hB5.chg hc7 no_; have hB8 := hB8.chg hc7 no_
  have hB6 : Blk w7 g6 36 (digC (idD cm)) := by simpa using hB7_
  refine WL.a rfl ?_
  refine WL.nil (hK11 _ _ ?_); try clear hK11
  refine CW.ret ?_
  exact ⟨_, _, _, rfl, hB6.mem, digC_length _, rfl, by rw [hErr, if_neg om_, if_pos (by assumption)], hE⟩
 refine CW.skip ?_
 refine hK7 _ _ ?_; try clear hK7
 refine CW.seq fun K12 hK12 => ?_
 refine CW.sr fun K13 hK13 => ?_
 refine WL.v (Y.fieldAddr fo_apiCommit0 rfl) ?_
 refine WL.v (Y.load1 Tryd.underlying25 rfl hB5.mem.com0 rfl) ?_
 refine WL.v (Y.len_slice Tryd.underlying25 rfl) ?_
 refine WL.m rfl ?_
 refine WL.nil (hK13 _ _ ?_); try clear hK13
 refine CW.block ?_
 refine CW.loop (X := Nat) (fun x => [(1, .slice A2 m2 c2), (3, .pointer (some ⟨g3, 0, none⟩)), (5, .pointer (some ⟨g5, 0, none⟩)), (6, .pointer (some ⟨g6, 0, none⟩)), (8, .pointer (some ⟨g8, 0, none⟩)), (38, .slice pA cm.parents.length pca), (39, .int .i64 (cm.parents.length : Int)), (40, .int .i64 (x : Int))]) (fun x w0 => x ≤ cm.parents.length ∧ (∀ (i : Nat) (d : Dig), i < x → cm.parents[i]? = some d → d ∈ idsH P) ∧ Ext w w0 ∧ Blk w0 g3 TPa (paC A ys.length c r) ∧ Blk w0 g5 29 (comC (.slice pA cm.parents.length pca) cm.author cm.note (.slice oB cm.ops.length ocb)) ∧ Blk w0 g6 36 (digC Dig.zero) ∧ Blk w0 g8 36 (digC (idD cm))) (fun x => cm.parents.length - x) 0 Fr.ok ⟨Nat.zero_le _, (fun i d h => by omega), hE, hB3, hB5, hB6, hB8⟩ ?_
 intro x w8 hl8
 clear hE hB3 hB5 hB6 hB8
 obtain ⟨hxm, hpi, hE, hB3, hB5, hB6, hB8⟩ := hl8
 have hzE := hE.size
 have hlt8_ := hB8.lt
 refine CW.sr fun K14 hK14 => ?_
 refine WL.v (Y.lss rfl rfl) ?_
 refine WL.nil (hK14 _ _ ?_); try clear hK14
 refine CW.seq fun K15 hK15 => ?_
 (first | refine cd_ rfl ?_ ?_ | refine ce_ rfl ?_ ?_ | refine cn_ rfl ?_ ?_ | refine cb_ rfl ?_ ?_) <;> intro ht16
 ·
  -- then
  refine CW.skip ?_
  refine hK15 _ _ ?_; try clear hK15
  refine CW.seq fun K17 hK17 => ?_
  refine CW.block ?_
  refine CW.seq fun K18 hK18 => ?_
  obtain ⟨d, hd⟩ : ∃ d, cm.parents[x]? = some d := ⟨_, List.getElem?_eq_getElem om_⟩
  obtain ⟨a2, rfl, hma2⟩ := hps.at hd
  refine CW.region ?_
  refine WL.v (Y.indexAddrN Tryd.underlying25 rfl rfl sz0_apiDigest om_) ?_
  refine WL.v (Y.load Tryd.underlying36 rfl (hma2.ext hE) (sz_apiDigest _) rfl) ?_
  refine as_apiDigest rfl (by simp) de_ fun g13 w9 hx9 hg13 hB13 => ?_
  have hlt13 := hB13.lt; have hz9 := hx9.size
  have hM13 := hB13.mem; have hz9 := hx9.size; have hE := hE.thenExt hx9; have hB3 := hB3.ext hx9; have hB5 := hB5.ext hx9; have hB6 := hB6.ext hx9; have hB8 := hB8.ext hx9
  refine WL.nil (hK18 _ _ ?_); try clear hK18
  refine CW.sr fun K19 hK19 => ?_
  refine WL.v (Y.fieldAddr fo_historypast1 rfl) ?_
  refine WL.v (Y.load1 Tryd.underlying73 rfl hB3.mem.historypast1 rfl) ?_
  refine WL.v (Y.load Tryd.underlying36 rfl hB13.mem (sz_apiDigest _) rfl) ?_
  refine WL.v (Y.lookupK rfl rfl (hP.map.ext hE)) ?_
  refine WL.m rfl ?_
  refine WL.v (Y.extract rfl rfl) ?_
  refine WL.v (Y.extract rfl rfl) ?_
  refine WL.a rfl ?_
  refine WL.a rfl ?_
  refine WL.nil (hK19 _ _ ?_); try clear hK19
  refine CW.sr fun K20 hK20 => ?_
  refine WL.m rfl ?_
  refine WL.v (Y.not rfl) ?_
  refine WL.nil (hK20 _ _ ?_); try clear hK20
  (first | refine cd_ rfl ?_ ?_ | refine ce_ rfl ?_ ?_ | refine cn_ rfl ?_ ?_ | refine cb_ rfl ?_ ?_) <;> intro ht21
  ·
   -- then
   refine CW.sr fun K22 hK22 => ?_
   refine WL.v (Y.load Tryd.underlying36 rfl hB8.mem (sz_apiDigest _) rfl) ?_
   refine WL.store (g := g6) (pre := []) (old := digC Dig.zero) (post := []) (new := digC (idD cm)) rfl rfl rfl rfl (sz_apiDigest _) (by simpa using hB6) ln_ (one_digC) (fun w10 hc10 hB10_ => ?_)
   have hz10 := hc10.size; have hE := hE.step hc10 (fun k h => by omega); have hB3 := hB3.chg hc10 no_; have hB5 := hB5.chg hc10 no_; have hB8 := hB8.chg hc10 no_; have hB13 := hB13.chg hc10 no_
   have hB6 : Blk w10 g6 36 (digC (idD cm)) := by simpa using hB10_
   refine WL.a rfl ?_
   refine WL.nil (hK22 _ _ ?_); try clear hK22
   refine CW.ret ?_
   exact ⟨_, _, _, rfl, hB6.mem, digC_length _, rfl, by rw [hErr, if_neg om_, if_neg (by assumption), if_pos ⟨d, List.mem_of_getElem? hd, by assumption⟩], hE⟩
  refine CW.skip ?_
  refine hK17 _ _ ?_; try clear hK17
  refine CW.region ?_
  refine WL.v (Y.add rfl rfl o2_) ?_
  refine WL.m rfl ?_
  refine WL.nil ?_
  refine ⟨x + 1, by show cm.parents.length - (x + 1) < cm.parents.length - x; omega, Fr.ok, by show x + 1 ≤ cm.parents.length; omega, ?_, hE, hB3, hB5, hB6, hB8⟩
  intro i q hi hq
  by_cases e : i < x
  ·
   exact hpi i q e hq
  ·
   have e2 : i = x := by omega
   subst e2
   rw [hd] at hq; cases hq
   assumption
 refine CW.exit ?_
 refine hK12 _ _ ?_; try clear hK12
 refine CW.seq fun K23 hK23 => ?_
 have hin : ∀ d ∈ cm.parents, d ∈ idsH P := fun d hd => by
  obtain ⟨i, hi⟩ := List.mem_iff_getElem?.1 hd
  exact hpi i d (by have := (List.getElem?_eq_some_iff.1 hi).1; omega) hi
 refine CW.region ?_
 refine WL.v (Y.load Tryd.underlying75 rfl hB3.mem (sz_historypast _ _) rfl) ?_
 refine WL.v (Y.fieldAddr fo_apiCommit0 rfl) ?_
 refine WL.v (Y.load1 Tryd.underlying25 rfl hB5.mem.com0 rfl) ?_
 refine WL.call Tryd.func27 rfl rfl rfl (hbeneath_any A c r cl _ ys cm.parents _ (hP.nds.ext hE) (by rw [hP.is]; exact hok) (by rw [hP.is, ids_nds]; exact hP.map.ext hE) (hps.ext hE) (fun d hd => by rw [hP.is, ids_nds]; exact hin d hd)) (by simp) ?_; rintro v58 w11 hR11
 obtain ⟨ib, rfl, hib, hIn, hx11⟩ := hR11
 have hz11 := hx11.size
 have hE := hE.thenExt hx11
 have hB3 := hB3.ext hx11
 have hB5 := hB5.ext hx11
 have hB6 := hB6.ext hx11
 have hB8 := hB8.ext hx11
 have hm0 : mayI cm = 0 := Decidable.not_not.1 (by assumption)
 have hlti := hIn.lt
 refine as_historyversion rfl (by simp) de_ fun g16 w12 hx12 hg16 hB16 => ?_
 have hlt16 := hB16.lt; have hz12 := hx12.size
 have hM16 := hB16.mem; have hz12 := hx12.size; have hE := hE.thenExt hx12; have hB3 := hB3.ext hx12; have hB5 := hB5.ext hx12; have hB6 := hB6.ext hx12; have hB8 := hB8.ext hx12
 refine WL.nil (hK23 _ _ ?_); try clear hK23
 refine CW.seq fun K24 hK24 => ?_
 refine CW.sr fun K25 hK25 => ?_
 refine WL.v (Y.fieldAddr fo_apiCommit3 rfl) ?_
 refine WL.v (Y.load1 Tryd.underlying27 rfl hB5.mem.com3 rfl) ?_
 refine WL.v (Y.len_slice Tryd.underlying27 rfl) ?_
 refine WL.m rfl ?_
 refine WL.nil (hK25 _ _ ?_); try clear hK25
 refine CW.block ?_
 refine CW.loop (X := Nat) (fun x => [(1, .slice A2 m2 c2), (3, .pointer (some ⟨g3, 0, none⟩)), (5, .pointer (some ⟨g5, 0, none⟩)), (6, .pointer (some ⟨g6, 0, none⟩)), (8, .pointer (some ⟨g8, 0, none⟩)), (16, .pointer (some ⟨g16, 0, none⟩)), (60, .slice oB cm.ops.length ocb), (61, .int .i64 (cm.ops.length : Int)), (62, .int .i64 (x : Int))]) (fun x w0 => x ≤ cm.ops.length ∧ (∀ (i : Nat) (o : OpD), i < x → cm.ops[i]? = some o → refKind o.at_ = 2 → fndB P cm.parents o.at_ = true) ∧ Ext w w0 ∧ Blk w0 g3 TPa (paC A ys.length c r) ∧ Blk w0 g5 29 (comC (.slice pA cm.parents.length pca) cm.author cm.note (.slice oB cm.ops.length ocb)) ∧ Blk w0 g6 36 (digC Dig.zero) ∧ Blk w0 g8 36 (digC (idD cm)) ∧ Blk w0 g16 TVe (veC A ys.length c r ib) ∧ Blk w0 ib TBo (boolC (markF (ndsL ys) cm.parents))) (fun x => cm.ops.length - x) 0 Fr.ok ⟨Nat.zero_le _, (fun i d h => by omega), hE, hB3, hB5, hB6, hB8, hB16, hIn.ext hx12⟩ ?_
 intro x w13 hl13
 clear hE hB3 hB5 hB6 hB8 hB16 hIn
 obtain ⟨hxm, hfi, hE, hB3, hB5, hB6, hB8, hB16, hIn⟩ := hl13
 have hzE := hE.size
 have hlt8_ := hB8.lt
 have hlt16_ := hB16.lt
 have hlti_ := hIn.lt
 refine CW.sr fun K26 hK26 => ?_
 refine WL.v (Y.lss rfl rfl) ?_
 refine WL.nil (hK26 _ _ ?_); try clear hK26
 refine CW.seq fun K27 hK27 => ?_
 (first | refine cd_ rfl ?_ ?_ | refine ce_ rfl ?_ ?_ | refine cn_ rfl ?_ ?_ | refine cb_ rfl ?_ ?_) <;> intro ht28
 ·
  -- then
  refine CW.skip ?_
  refine hK27 _ _ ?_; try clear hK27
  refine CW.seq fun K29 hK29 => ?_
  refine CW.block ?_
  refine CW.seq fun K30 hK30 => ?_
  obtain ⟨o, ho⟩ : ∃ o, cm.ops[x]? = some o := ⟨_, List.getElem?_eq_getElem om_⟩
  obtain ⟨a2, rfl, hma2⟩ := hos.at ho
  have hro := right_op ho ((mayI_ok hm0).right x om_)
  refine CW.region ?_
  refine WL.v (Y.indexAddrN Tryd.underlying27 rfl rfl sz0_apiOp om_) ?_
  refine WL.v (Y.load Tryd.underlying62 rfl (hma2.ext hE) (sz_apiOp _) rfl) ?_
  refine as_apiOp rfl (by simp) de_ fun g18 w14 hx14 hg18 hB18 => ?_
  have hlt18 := hB18.lt; have hz14 := hx14.size
  have hM18 := hB18.mem; have hz14 := hx14.size; have hE := hE.thenExt hx14; have hB3 := hB3.ext hx14; have hB5 := hB5.ext hx14; have hB6 := hB6.ext hx14; have hB8 := hB8.ext hx14; have hB16 := hB16.ext hx14
  refine WL.nil (hK30 _ _ ?_); try clear hK30
  refine CW.seq_testE 83 ((o.at_.own = false ∧ 0 < o.at_.n) ∧ fndB P cm.parents o.at_ = false) ?_ ?_
  ·
   refine CW.region ?_
   refine WL.v (Y.fieldAddr fo_apiOp2 rfl) ?_
   refine WL.v (Y.fieldAddr fo_apiRef0 rfl) ?_
   refine WL.v (Y.load1 Tryd.underlying4 rfl hB18.mem.op2.ref0 rfl) ?_
   refine WL.v (Y.not rfl) ?_
   refine WL.m rfl ?_
   (first | refine WL.casesD (d := 70) rfl ?_ ?_ | refine WL.casesND (d := 70) rfl ?_ ?_ | refine WL.cases (d := 70) rfl ?_ ?_) <;> intro hg70
   ·
    -- t70 = T
    refine WL.g rfl rfl (Y.fieldAddr fo_apiOp2 rfl) ?_
    refine WL.g rfl rfl (Y.fieldAddr fo_apiRef2 rfl) ?_
    refine WL.g rfl rfl (Y.load1 Tryd.underlying3 rfl hB18.mem.op2.ref2 rfl) ?_
    refine WL.g rfl rfl (Y.gtr rfl rfl) ?_
    refine WL.v (Y.pick rfl rfl) ?_
    refine WL.m rfl ?_
    (first | refine WL.casesD (d := 76) rfl ?_ ?_ | refine WL.casesND (d := 76) rfl ?_ ?_ | refine WL.cases (d := 76) rfl ?_ ?_) <;> intro hg76
    ·
     -- t76 = T
     refine WL.g rfl rfl (Y.load Tryd.underlying84 rfl hB16.mem (sz_historyversion _ _ _) rfl) ?_
     refine WL.g rfl rfl (Y.move rfl) ?_
     refine WL.g rfl rfl (Y.fieldAddr fo_apiOp2 rfl) ?_
     refine WL.g rfl rfl (Y.load Tryd.underlying60 rfl hB18.mem.op2 (sz_apiRef _) rfl) ?_
     refine WL.gcall rfl rfl Tryd.func66 rfl rfl rfl (hfinds_any A c r cl ib ys P cm.parents A2 m2 c2 l o.at_ _ (hP.ext hE) (hIn.ext hx14) (hl.ext hE) hPl ⟨by omega, far_le hro.ref (by simpa using hg70) om_⟩) de_ ?_; rintro v w15 ⟨rfl, hx15⟩; have hz15 := hx15.size; have hE := hE.thenExt hx15; have hB3 := hB3.ext hx15; have hB5 := hB5.ext hx15; have hB6 := hB6.ext hx15; have hB8 := hB8.ext hx15; have hB16 := hB16.ext hx15; have hB18 := hB18.ext hx15
     refine WL.g rfl rfl (Y.not rfl) ?_
     refine WL.v (Y.pick rfl rfl) ?_
     refine WL.nil ⟨⟨_, rfl, ?_⟩, hx15, Fr.okp⟩
     first | exact far_t1 hg70 hg76 | exact far_t2 hg76 | exact far_t3 hg70
    ·
     -- t76 = F
     refine WL.o rfl rfl ?_
     refine WL.o rfl rfl ?_
     refine WL.o rfl rfl ?_
     refine WL.o rfl rfl ?_
     refine WL.o rfl rfl ?_
     refine WL.o rfl rfl ?_
     refine WL.v (Y.pick rfl rfl) ?_
     refine WL.nil ⟨⟨_, rfl, ?_⟩, Chg.refl, Fr.okp⟩
     first | exact far_t1 hg70 hg76 | exact far_t2 hg76 | exact far_t3 hg70
   ·
    -- t70 = F
    refine WL.o rfl rfl ?_
    refine WL.o rfl rfl ?_
    refine WL.o rfl rfl ?_
    refine WL.o rfl rfl ?_
    refine WL.v (Y.pick rfl rfl) ?_
    refine WL.m rfl ?_
    refine WL.o rfl rfl ?_
    refine WL.o rfl rfl ?_
    refine WL.o rfl rfl ?_
    refine WL.o rfl rfl ?_
    refine WL.o rfl rfl ?_
    refine WL.o rfl rfl ?_
    refine WL.v (Y.pick rfl rfl) ?_
    refine WL.nil ⟨⟨_, rfl, ?_⟩, Chg.refl, Fr.okp⟩
    first | exact far_t1 hg70 hg76 | exact far_t2 hg76 | exact far_t3 hg70
  intro w16 hx16; have hz16 := hx16.size; have hE := hE.thenExt hx16; have hB3 := hB3.ext hx16; have hB5 := hB5.ext hx16; have hB6 := hB6.ext hx16; have hB8 := hB8.ext hx16; have hB16 := hB16.ext hx16; have hB18 := hB18.ext hx16
  (first | refine cd_ rfl ?_ ?_ | refine ce_ rfl ?_ ?_ | refine cn_ rfl ?_ ?_ | refine cb_ rfl ?_ ?_) <;> intro ht31
  ·
   -- then
   refine CW.sr fun K32 hK32 => ?_
   refine WL.v (Y.load Tryd.underlying36 rfl hB8.mem (sz_apiDigest _) rfl) ?_
   refine WL.store (g := g6) (pre := []) (old := digC Dig.zero) (post := []) (new := digC (idD cm)) rfl rfl rfl rfl (sz_apiDigest _) (by simpa using hB6) ln_ (one_digC) (fun w17 hc17 hB17_ => ?_)
   have hz17 := hc17.size; have hE := hE.step hc17 (fun k h => by omega); have hB3 := hB3.chg hc17 no_; have hB5 := hB5.chg hc17 no_; have hB8 := hB8.chg hc17 no_; have hB16 := hB16.chg hc17 no_; have hB18 := hB18.chg hc17 no_
   have hB6 : Blk w17 g6 36 (digC (idD cm)) := by simpa using hB17_
   refine WL.a rfl ?_
   refine WL.nil (hK32 _ _ ?_); try clear hK32
   refine CW.ret ?_
   exact ⟨_, _, _, rfl, hB6.mem, digC_length _, rfl, by rw [hErr, if_neg om_, if_neg (by assumption), if_neg (by rintro ⟨p, hp, hn⟩; exact hn (hin p hp)), if_pos ⟨o, List.mem_of_getElem? ho, far_is hro.ref ht31.1.1 ht31.1.2, ht31.2⟩], hE⟩
  refine CW.skip ?_
  refine hK29 _ _ ?_; try clear hK29
  refine CW.region ?_
  refine WL.v (Y.add rfl rfl o2_) ?_
  refine WL.m rfl ?_
  refine WL.nil ?_
  refine ⟨x + 1, by show cm.ops.length - (x + 1) < cm.ops.length - x; omega, Fr.ok, by show x + 1 ≤ cm.ops.length; omega, ?_, hE, hB3, hB5, hB6, hB8, hB16, (hIn.ext hx14).ext hx16⟩
  intro i q hi hq hr
  by_cases e : i < x
  ·
   exact hfi i q e hq hr
  ·
   have e2 : i = x := by omega
   subst e2
   rw [ho] at hq; cases hq
   cases hf : fndB P cm.parents o.at_ with
   | true => rfl
   | false => exact absurd ⟨⟨(refKind_two hr).1, by have := (refKind_two hr).2.1; omega⟩, hf⟩ ht31
 refine CW.exit ?_
 refine hK24 _ _ ?_; try clear hK24
 refine CW.sr fun K33 hK33 => ?_
 refine WL.v (Y.load Tryd.underlying36 rfl hB8.mem (sz_apiDigest _) rfl) ?_
 refine WL.store (g := g6) (pre := []) (old := digC Dig.zero) (post := []) (new := digC (idD cm)) rfl rfl rfl rfl (sz_apiDigest _) (by simpa using hB6) ln_ (one_digC) (fun w18 hc18 hB18_ => ?_)
 have hz18 := hc18.size; have hE := hE.step hc18 (fun k h => by omega); have hB3 := hB3.chg hc18 no_; have hB5 := hB5.chg hc18 no_; have hB8 := hB8.chg hc18 no_; have hB16 := hB16.chg hc18 no_
 have hB6 : Blk w18 g6 36 (digC (idD cm)) := by simpa using hB18_
 refine WL.a rfl ?_
 refine WL.nil (hK33 _ _ ?_); try clear hK33
 refine CW.ret ?_
 exact ⟨_, _, _, rfl, hB6.mem, digC_length _, rfl, by rw [hErr, if_neg om_, if_neg (by assumption), if_neg (by rintro ⟨p, hp, hn⟩; exact hn (hin p hp)), if_neg (by
   rintro ⟨o, ho, hr, hf⟩
   obtain ⟨i, hi⟩ := List.mem_iff_getElem?.1 ho
   rw [hfi i o (by have := (List.getElem?_eq_some_iff.1 hi).1; omega) hi hr] at hf
   cases hf)], hE⟩
end Go.Proofs.YtmehkigmnpjcjaaDoor
/- Building structs out of parts of several cells; what the api's references are built of. No condition. -/
namespace Go.Fw
open Go.RowKit Go.Fu
def nodeC (x : El) (lv rv : Value) : List Value := refC x.name ++ [bc x.byte, .bool x.gone, lv, rv]
def side (x : El) (s : Bool) : List Nat := cond s x.left x.right
theorem Sl.get {α : Type} {w : World} {enc : α → List Value} {k : Nat} {A : Option Addr} {m c : Nat} {xs : List α} (h : Sl w enc k (.slice A m c) xs) {i : Nat} {x : α} (hx : xs[i]? = some x) : ∃ a, A = some a ∧ Mem w (a.add (i * k)) (enc x) := by
 obtain ⟨A', m', c', e, _, _, _, hls⟩ := h
 injection e with e1
 subst e1
 exact hls i x hx
theorem Own.kind {w : World} {e : TypeId} {k : Nat} {v : Value} {xs : List Value} (h : Own w e k v xs) {g : Nat} (hg : v.ownBlock = some g) : ∃ cs fz, w.heap[g]? = some (.cells cs e fz) := by
 rcases h with ⟨rfl, _⟩ | ⟨g', n, cap, rest, fz, rfl, hh, _⟩
 ·
  simp [Value.ownBlock] at hg
 ·
  simp [Value.ownBlock] at hg; subst hg; exact ⟨_, _, hh⟩
theorem fold_set (off : Nat) : ∀ (new : List Value) (k : Nat) (pre old post : List Value), old.length = new.length → pre.length = off + k →
  (new.zipIdx k).foldl (fun (cs : Array Value) p => cs.setIfInBounds (off + p.2) p.1) (pre ++ old ++ post).toArray = (pre ++ new ++ post).toArray
 | [], k, pre, old, post, h, _ => by
  have : old = [] := List.length_eq_zero_iff.1 h
  subst this; rfl
 | v :: new, k, pre, [], post, h, _ => by simp at h
 | v :: new, k, pre, o :: old, post, h, hp => by
  rw [List.zipIdx_cons, List.foldl_cons]
  have e1 : (pre ++ (o :: old) ++ post).toArray.setIfInBounds (off + k) v = ((pre ++ [v]) ++ old ++ post).toArray := by
   rw [List.setIfInBounds_toArray, ← hp]; simp
  show List.foldl _ ((pre ++ (o :: old) ++ post).toArray.setIfInBounds (off + k) v) _ = _
  rw [e1, fold_set off new (k + 1) (pre ++ [v]) old post (by simpa using h) (by simp [hp]; omega)]
  simp
theorem fill_step {place : Nat → Option (Nat × Nat)} {i off : Nat} {v : Value} {rest : List (Nat × Value)} (pre old post new : List Value) (hp : place i = some (off, new.length)) (hv : v.cells = new.toArray) (hl : old.length = new.length) (ho : pre.length = off) :
  Instr.fill place (pre ++ old ++ post).toArray ((i, v) :: rest) = Instr.fill place (pre ++ new ++ post).toArray rest := by
 rw [Instr.fill, hp, hv]
 simp only
 rw [if_neg (by simp; omega)]
 congr 1
 have := fold_set off new 0 pre old post hl om_
 rw [← this, ← Array.foldl_toList, Array.toList_zipIdx]
end Go.Fw
namespace Go.Proofs.YtmehkigmnpjcjaaDoor
open Go.RowKit Go.Fw
theorem built_ref (parts : List (Nat × Value)) : Tryd.prog.built 60 parts = Instr.fill (fun i => #[(0, 1), (1, 32), (33, 1)][i]?) (refC RefD.zero).toArray parts := by kernel_rfl
theorem build_ref2 (d : Dig) (n : Int) (w : World) : (Instr.build 60 [(1, digV d), (2, Value.int .i64 n)].toArray).run Tryd.prog w = .ok (refV ⟨false, d, n⟩) w := run_build w _ _ _ (by
 show Tryd.prog.built _ [(1, digV d), (2, Value.int .i64 n)] = _
 rw [built_ref]
 have e0 : refC RefD.zero = [Value.bool false] ++ digC Dig.zero ++ [.int .i64 0] := rfl
 rw [e0, fill_step [Value.bool false] (digC Dig.zero) [.int .i64 0] (digC d) (by rw [digC_length]; rfl) rfl (by rw [digC_length, digC_length]) rfl]
 have e1 : [Value.bool false] ++ digC d ++ [.int .i64 0] = ([Value.bool false] ++ digC d) ++ [.int .i64 0] ++ [] := by simp
 rw [e1, fill_step ([Value.bool false] ++ digC d) [.int .i64 0] [] [.int .i64 n] rfl rfl rfl (by rw [List.length_append, digC_length]; rfl), Instr.fill]
 simp [refV, refC])
end Go.Proofs.YtmehkigmnpjcjaaDoor
/- A history is read: read, Check, Nodes, walked. No condition but the table of digest.keys. -/
namespace Go.Proofs.YtmehkigmnpjcjaaDoor
open Go.RowKit Go.Fw Go.Pl Go.Sort Go.Fu
theorem ai_ndH : AppInfo Tryd.prog TNo 33 56 := by
 have h : (Tryd.prog.info? TNo).map (fun i => (i.zero, i.size, i.bytes)) = some (some (ndV NdV.zero), 33, 56) := by kernel_rfl
 cases hi : Tryd.prog.info? TNo with
 | none => simp [hi] at h
 | some i =>
  simp [hi] at h
  exact ⟨i, _, hi, h.1, h.2.1, by show (ndC NdV.zero).toArray.size = 33; simp [ndC_length], h.2.2, by decide, by decide⟩
theorem bs1_ndH (x : NdV) (w : World) : (Instr.buildSlice 48 1 [(0, ndV x)].toArray).run Tryd.prog w = .ok (.slice (some ⟨w.heap.size, 0, none⟩) 1 1) (w.alloc (.cells (ndC x).toArray TNo)) := by
 obtain ⟨i, z, hi, hz, hk, _⟩ := ai_ndH
 exact run_bs1 Tryd.underlying48 hi hz om_ om_ rfl (by rw [ndC_length, hk]) w
theorem build_ndH (d : Dig) (ps : List Dig) (A : Option Addr) (m c : Nat) (h : m = ps.length) (w : World) : (Instr.build TNo [(0, digV d), (1, .slice A m c)].toArray).run Tryd.prog w = .ok (ndV ⟨⟨d, ps⟩, A, c⟩) w := by
 subst h
 refine run_build w _ _ _ ?_
 have hb : ∀ parts, Tryd.prog.built TNo parts = Instr.fill (fun i => #[(0, 32), (32, 1)][i]?) (ndC NdV.zero).toArray parts := fun parts => by kernel_rfl
 show Tryd.prog.built _ [(0, digV d), (1, .slice A ps.length c)] = _
 rw [hb]
 have e0 : ndC NdV.zero = [] ++ digC Dig.zero ++ [.slice none 0 0] := rfl
 rw [e0, fill_step [] (digC Dig.zero) [.slice none 0 0] (digC d) (by rw [digC_length]; rfl) rfl (by rw [digC_length, digC_length]) rfl]
 have e1 : [] ++ digC d ++ [.slice none 0 0] = digC d ++ [.slice none 0 0] ++ [] := by simp
 rw [e1, fill_step (digC d) [.slice none 0 0] [] [.slice A ps.length c] rfl rfl rfl (digC_length d), Instr.fill]
 simp [ndC]
theorem one_fdH (l : List Dig) : ∀ u ∈ flatD l, u.oneCell' = true := by
 intro u hu
 obtain ⟨c, hc, hu⟩ := List.mem_flatten.1 hu
 obtain ⟨d, _, rfl⟩ := List.mem_map.1 hc
 exact one_digC u hu
theorem flat_nd (l : List NdV) : ((l.map ndC).flatten).length = l.length * 33 := flat_length ndC_length l
structure RdAt (w w0 : World) (A : Option Addr) (c : Nat) (ys : List NdV) : Prop where
 own : Own w0 TNo 33 (.slice A ys.length c) ((ys.map ndC).flatten)
 ps : ∀ y ∈ ys, Own w0 36 32 y.pv (flatD y.n.ps)
 new : ∀ k, (Value.slice A ys.length c).ownBlock = some k → w.heap.size ≤ k
 pnew : ∀ y ∈ ys, ∀ k, y.pv.ownBlock = some k → w.heap.size ≤ k ∧ (Value.slice A ys.length c).ownBlock ≠ some k
theorem RdAt.chg {w w0 w1 : World} {A : Option Addr} {c : Nat} {ys : List NdV} {S : Nat → Prop} (h : RdAt w w0 A c ys) (hc : Chg S w0 w1) (hs : ∀ k, w.heap.size ≤ k → ¬ S k) : RdAt w w1 A c ys :=
 ⟨h.own.chg hc fun k hk => hs k (h.new k hk), fun y hy => (h.ps y hy).chg hc fun k hk => hs k (h.pnew y hy k hk).1, h.new, h.pnew⟩
theorem RdAt.ext {w w0 w1 : World} {A : Option Addr} {c : Nat} {ys : List NdV} (h : RdAt w w0 A c ys) (hc : Ext w0 w1) : RdAt w w1 A c ys := h.chg hc fun _ _ f => f
theorem RdAt.nds {w w0 : World} {A : Option Addr} {c : Nat} {ys : List NdV} (h : RdAt w w0 A c ys) : Nds w0 (.slice A ys.length c) ys :=
 ⟨h.own.sl ndC_length de_, fun y hy => (h.ps y hy).sl digC_length de_⟩
theorem RdAt.old {w' w w0 : World} {A : Option Addr} {c : Nat} {ys : List NdV} (h : RdAt w w0 A c ys) (hw : w'.heap.size ≤ w.heap.size) : RdAt w' w0 A c ys :=
 ⟨h.own, h.ps, fun k hk => Nat.le_trans hw (h.new k hk), fun y hy k hk => ⟨Nat.le_trans hw (h.pnew y hy k hk).1, (h.pnew y hy k hk).2⟩⟩
theorem RdAt.nil {w w0 : World} : RdAt w w0 none 0 [] := ⟨Own.nil, fun y hy => (by cases hy), fun k hk => (by simp [Value.ownBlock] at hk), fun y hy => (by cases hy)⟩
theorem RdAt.add {w w0 w1 : World} {A A' : Option Addr} {c n' c' : Nat} {ys : List NdV} {y : NdV} (h : RdAt w w0 A c ys) (hy : Own w0 36 32 y.pv (flatD y.n.ps)) (hyn : ∀ k, y.pv.ownBlock = some k → w.heap.size ≤ k ∧ (Value.slice A ys.length c).ownBlock ≠ some k)
  (hO : Own w1 TNo 33 (.slice A' n' c') ((ys.map ndC).flatten ++ ndC y)) (hc : Chg (fun k => (Value.slice A ys.length c).ownBlock = some k) w0 w1) (hf : (Value.slice A' n' c').ownBlock = (Value.slice A ys.length c).ownBlock ∨ ∀ k, (Value.slice A' n' c').ownBlock = some k → w0.heap.size ≤ k) (hw : w.heap.size ≤ w0.heap.size) :
  n' = (ys ++ [y]).length ∧ RdAt w w1 A' c' (ys ++ [y]) := by
 have hn : n' = (ys ++ [y]).length := by
  have := (hO.mem A' n' c' rfl).2.2.1
  rw [List.length_append, flat_nd, ndC_length] at this
  rw [List.length_append, List.length_singleton]
  omega
 subst hn
 refine ⟨rfl, by simpa using hO, fun z hz => ?_, fun k hk => ?_, fun z hz k hk => ?_⟩
 ·
  rcases List.mem_append.1 hz with hz | hz
  ·
   exact (h.ps z hz).chg hc fun k hk => (h.pnew z hz k hk).2
  ·
   simp at hz; subst hz
   exact hy.chg hc fun k hk => (hyn k hk).2
 ·
  rcases hf with h1 | h1
  ·
   exact h.new k (h1 ▸ hk)
  ·
   exact Nat.le_trans hw (h1 k hk)
 ·
  have key : w.heap.size ≤ k ∧ (Value.slice A ys.length c).ownBlock ≠ some k ∧ k < w0.heap.size := by
   rcases List.mem_append.1 hz with hz | hz
   ·
    exact ⟨(h.pnew z hz k hk).1, (h.pnew z hz k hk).2, (h.ps z hz).lt k hk⟩
   ·
    simp at hz; subst hz
    exact ⟨(hyn k hk).1, (hyn k hk).2, hy.lt k hk⟩
  refine ⟨key.1, fun e => ?_⟩
  rcases hf with h1 | h1
  ·
   exact key.2.1 (h1 ▸ e)
  ·
   have := h1 k e; omega
theorem info_apiCommitH : ∃ i : TypeInfo, Tryd.prog.info? 29 = some i ∧ i.zero = some (.agg (comC (.slice none 0 0) ByteArray.empty ByteArray.empty (.slice none 0 0)).toArray) ∧ i.size = 4 := by
 have h : (Tryd.prog.info? 29).map (fun i => (i.zero, i.size)) = some (some (.agg (comC (.slice none 0 0) ByteArray.empty ByteArray.empty (.slice none 0 0)).toArray), 4) := by kernel_rfl
 cases hi : Tryd.prog.info? 29 with
 | none => simp [hi] at h
 | some i => simp [hi] at h; exact ⟨i, rfl, h.1, h.2⟩
theorem one4 {a b c d : Value} (ha : a.oneCell' = true) (hb : b.oneCell' = true) (hc : c.oneCell' = true) (hd : d.oneCell' = true) : ∀ u ∈ [a, b, c, d], u.oneCell' = true := by
 intro u hu; simp at hu; rcases hu with rfl | rfl | rfl | rfl <;> assumption
theorem cs_at {l : List CoV} {x : Nat} {y : CoV} (h : l[x]? = some y) : (csL l)[x]? = some y.c := by simp [h]
set_option maxRecDepth 100000 in
set_option maxHeartbeats 4000000 in
theorem hread_any (u : Value) (l : List CoV) (w : World) (hl : Hcs w u l) (hK : Mem w ⟨0, 0, none⟩ (wds keysL)) : Calls Tryd.prog 23 #[u] w (Ret fun v w' => ∃ A c r cl ys k, v = .tuple #[.agg (paC A ys.length c r).toArray, .int .i64 ((rdH (csL l)).1 : Int), .int .i64 (rdH (csL l)).2] ∧ RdAt w w' A c ys ∧ PaAt w' A c r cl ys ((csL l).take k) ∧ w.heap.size ≤ r ∧ ((rdH (csL l)).2 = 0 → k = l.length) ∧ Ext w w') := by
 obtain ⟨A2, m2, c2, rfl, hlm, hmc, hcm, hlg⟩ := id hl.sl
 unfold maxLen at hcm
 obtain ⟨pi_, hpi, hpz, hps_⟩ := info_past
 obtain ⟨ci_, hci, hcz, hcs⟩ := info_apiCommitH
 have hcl : (csL l).length = m2 := by rw [List.length_map]; exact hlm
 refine calls_of_CWct 51 2 2 [3, 4] [(0, .slice A2 m2 c2)] Tryd.func23 rfl rfl rfl Tryd.underlying75 rfl kr_ (by simp) args1 ?_
 have hE : Ext w w := Chg.refl
 refine CW.sr fun K1 hK1 => ?_
 refine WL.alloc (hpi) (hpz) rfl de_ fun g2 w1 hx1 hg2 hB2 => ?_
 have hlt2 := hB2.lt; have hz1 := hx1.size
 have hM2 := hB2.mem; have hz1 := hx1.size; have hE := hE.thenExt hx1
 refine WL.a rfl ?_
 refine WL.a rfl ?_
 refine WL.nil (hK1 _ _ ?_); try clear hK1
 refine CW.sr fun K2 hK2 => ?_
 refine WL.st (St.makeMap) de_ fun v10 w2 hR2 => ?_
 obtain ⟨r, rfl, hr, hMp, hx2⟩ := hR2
 have hz2 := hx2.size
 have hE := hE.thenExt hx2
 have hB2 := hB2.ext hx2
 have hM := hMp _ pme
 have hrl := hM.lt
 refine WL.v (Y.build rfl (build_past _ _)) ?_
 refine as_historypast rfl (by simp) de_ fun g5 w3 hx3 hg5 hB5 => ?_
 have hlt5 := hB5.lt; have hz3 := hx3.size
 have hM5 := hB5.mem; have hz3 := hx3.size; have hE := hE.thenExt hx3; have hB2 := hB2.ext hx3
 refine WL.nil (hK2 _ _ ?_); try clear hK2
 refine CW.seq fun K3 hK3 => ?_
 refine CW.sr fun K4 hK4 => ?_
 refine WL.m rfl ?_
 refine WL.v (Y.len_slice Tryd.underlying22 rfl) ?_
 refine WL.v (Y.gtr rfl rfl) ?_
 refine WL.nil (hK4 _ _ ?_); try clear hK4
 (first | refine cd_ rfl ?_ ?_ | refine ce_ rfl ?_ ?_ | refine cn_ rfl ?_ ?_ | refine cb_ rfl ?_ ?_) <;> intro ht5
 ·
  -- then
  refine CW.sr fun K6 hK6 => ?_
  refine WL.v (Y.load Tryd.underlying75 rfl hB5.mem (sz_historypast _ _) rfl) ?_
  refine WL.store (g := g2) (pre := []) (old := [.slice none 0 0, .map none]) (post := []) (new := paC none 0 0 r) rfl rfl rfl rfl kr_ (by simpa using hB2) ln_ (one2 rfl rfl) (fun w4 hc4 hB4_ => ?_)
  have hz4 := hc4.size; have hE := hE.step hc4 (fun k h => by omega); have hB5 := hB5.chg hc4 no_
  have hB2 : Blk w4 g2 TPa (paC none 0 0 r) := by simpa using hB4_
  refine WL.a rfl ?_
  refine WL.a rfl ?_
  refine WL.nil (hK6 _ _ ?_); try clear hK6
  refine CW.ret ?_
  have he : rdH (csL l) = (0, 4) := by rw [rdH, if_pos om_]
  exact ⟨_, _, _, rfl, hB2.mem, rfl, rfl, none, 0, r, 0, [], 0, by rw [he]; rfl, RdAt.nil, ⟨RdAt.nil.nds (w := w), (hM.ext hx3).chg hc4 no_, rfl⟩, by omega, fun h => (by rw [he] at h; cases h), hE⟩
 refine CW.skip ?_
 refine hK3 _ _ ?_; try clear hK3
 refine CW.seq fun K7 hK7 => ?_
 refine CW.sr fun K8 hK8 => ?_
 refine WL.m rfl ?_
 refine WL.v (Y.len_slice Tryd.underlying22 rfl) ?_
 refine WL.m rfl ?_
 refine WL.nil (hK8 _ _ ?_); try clear hK8
 refine CW.block ?_
 refine CW.loop (X := Option Addr × Nat × List NdV) (fun x => [(0, .slice A2 m2 c2), (2, .pointer (some ⟨g2, 0, none⟩)), (5, .pointer (some ⟨g5, 0, none⟩)), (16, .slice A2 m2 c2), (17, .int .i64 (m2 : Int)), (18, .int .i64 (x.2.2.length : Int))]) (fun x w0 => x.2.2.length ≤ m2 ∧ RdAt w3 w0 x.1 x.2.1 x.2.2 ∧ ndsL x.2.2 = ndsH ((csL l).take x.2.2.length) ∧ MapAt w0 r pme (placed (idsH ((csL l).take x.2.2.length))) x.2.2.length ∧ HOk ((csL l).take x.2.2.length) ∧ hread (csL l) [] = hread ((csL l).drop x.2.2.length) ((csL l).take x.2.2.length) ∧ Blk w0 g2 TPa [.slice none 0 0, .map none] ∧ Blk w0 g5 TPa (paC x.1 x.2.2.length x.2.1 r) ∧ Ext w w0 ∧ w3.heap.size ≤ w0.heap.size) (fun x => m2 - x.2.2.length) (none, 0, []) Fr.ok ⟨Nat.zero_le _, RdAt.nil, rfl, hM.ext hx3, HOk.nil, rfl, hB2, hB5, hE, Nat.le_refl _⟩ ?_
 intro x w5 hl5
 clear hE hM hB2 hB5
 obtain ⟨A, c, ys⟩ := x
 dsimp only at hl5 ⊢
 obtain ⟨hxm, hQ, his, hM, hok, hrd, hB2, hB5, hE, hz5⟩ := hl5
 have hzE := hE.size
 have hltr := hM.lt
 have hlt2_ := hB2.lt
 have hlt5_ := hB5.lt
 have hQlt := hQ.own.lt
 refine CW.sr fun K9 hK9 => ?_
 refine WL.v (Y.lss rfl rfl) ?_
 refine WL.nil (hK9 _ _ ?_); try clear hK9
 refine CW.seq fun K10 hK10 => ?_
 (first | refine cd_ rfl ?_ ?_ | refine ce_ rfl ?_ ?_ | refine cn_ rfl ?_ ?_ | refine cb_ rfl ?_ ?_) <;> intro ht11
 ·
  -- then
  refine CW.skip ?_
  refine hK10 _ _ ?_; try clear hK10
  refine CW.seq fun K12 hK12 => ?_
  refine CW.block ?_
  refine CW.seq fun K13 hK13 => ?_
  obtain ⟨cx, hcx⟩ : ∃ cx, l[ys.length]? = some cx := ⟨_, List.getElem?_eq_getElem om_⟩
  have hco := hl.all cx (List.mem_of_getElem? hcx)
  obtain ⟨a2, rfl, hma2⟩ := hlg _ _ hcx
  obtain ⟨cm, pA, pca, oB, ocb⟩ := cx
  have hps := hco.ps
  have hos := hco.os
  dsimp only [CoV.pv, CoV.ov, coC] at hps hos hma2
  have hP : PaAt w5 A c r ys.length ys ((csL l).take ys.length) := ⟨hQ.nds, hM, his⟩
  have htl : ((csL l).take ys.length).length = ys.length := by rw [List.length_take]; omega
  refine CW.region ?_
  refine WL.m rfl ?_
  refine WL.v (Y.indexAddrN Tryd.underlying22 rfl rfl sz0_apiCommit om_) ?_
  refine WL.v (Y.load Tryd.underlying29 rfl (hma2.ext hE) (sz_apiCommit _ _ _ _) rfl) ?_
  refine WL.alloc (hci) (hcz) rfl de_ fun g7 w6 hx6 hg7 hB7 => ?_
  have hlt7 := hB7.lt; have hz6 := hx6.size
  have hM7 := hB7.mem; have hz6 := hx6.size; have hE := hE.thenExt hx6; have hB2 := hB2.ext hx6; have hB5 := hB5.ext hx6
  refine WL.a rfl ?_
  refine WL.store (g := g7) (pre := []) (old := comC (.slice none 0 0) ByteArray.empty ByteArray.empty (.slice none 0 0)) (post := []) (new := (comC (.slice pA cm.parents.length pca) cm.author cm.note (.slice oB cm.ops.length ocb))) rfl rfl rfl rfl (sz_apiCommit _ _ _ _) (by simpa using hB7) ln_ (one4 rfl rfl rfl rfl) (fun w7 hc7 hB7_ => ?_)
  have hz7 := hc7.size; have hE := hE.step hc7 (fun k h => by omega); have hB2 := hB2.chg hc7 no_; have hB5 := hB5.chg hc7 no_
  have hB7 : Blk w7 g7 29 (comC (.slice pA cm.parents.length pca) cm.author cm.note (.slice oB cm.ops.length ocb)) := by simpa using hB7_
  have hx67 : Ext w5 w7 := (hx6.thenExt (Ext.chg Chg.refl)).step hc7 (fun k h => by omega)
  have hP := hP.ext hx67
  have hQ := hQ.ext hx67
  have hM := hM.ext hx67
  refine WL.nil (hK13 _ _ ?_); try clear hK13
  refine CW.sr fun K14 hK14 => ?_
  refine WL.v (Y.load Tryd.underlying75 rfl hB5.mem (sz_historypast _ _) rfl) ?_
  refine WL.m rfl ?_
  refine WL.v (Y.load Tryd.underlying29 rfl hB7.mem (sz_apiCommit _ _ _ _) rfl) ?_
  refine WL.call Tryd.func47 rfl rfl rfl (hwrong_any A c r ys.length ys ((csL l).take ys.length) _ m2 c2 l ⟨cm, pA, pca, oB, ocb⟩ _ hP hok om_ (hl.ext hE) (by rw [htl]) (hco.ext hE) (hK.ext hE)) (by simp) ?_; rintro v w8 ⟨rfl, hx8⟩; have hz8 := hx8.size; have hE := hE.thenExt hx8; have hB2 := hB2.ext hx8; have hB5 := hB5.ext hx8; have hB7 := hB7.ext hx8
  refine WL.m rfl ?_
  refine WL.v (Y.extract rfl rfl) ?_
  refine WL.v (Y.extract rfl rfl) ?_
  refine as_apiDigest rfl (by simp) de_ fun g8 w9 hx9 hg8 hB8 => ?_
  have hlt8 := hB8.lt; have hz9 := hx9.size
  have hM8 := hB8.mem; have hz9 := hx9.size; have hE := hE.thenExt hx9; have hB2 := hB2.ext hx9; have hB5 := hB5.ext hx9; have hB7 := hB7.ext hx9
  refine WL.a rfl ?_
  refine WL.nil (hK14 _ _ ?_); try clear hK14
  refine CW.seq fun K15 hK15 => ?_
  refine CW.sr fun K16 hK16 => ?_
  refine WL.m rfl ?_
  refine WL.v (Y.neq rfl rfl) ?_
  refine WL.nil (hK16 _ _ ?_); try clear hK16
  (first | refine cd_ rfl ?_ ?_ | refine ce_ rfl ?_ ?_ | refine cn_ rfl ?_ ?_ | refine cb_ rfl ?_ ?_) <;> intro ht17
  ·
   -- then
   refine CW.seq fun K18 hK18 => ?_
   have hw1 := hread_stop (cs_at hcx) (by assumption)
   rw [← hrd] at hw1
   refine CW.region ?_
   refine WL.v (Y.load Tryd.underlying75 rfl hB5.mem (sz_historypast _ _) rfl) ?_
   refine WL.m rfl ?_
   refine WL.m rfl ?_
   refine WL.store (g := g2) (pre := []) (old := [.slice none 0 0, .map none]) (post := []) (new := paC A ys.length c r) rfl rfl rfl rfl kr_ (by simpa using hB2) ln_ (one2 rfl rfl) (fun w10 hc10 hB10_ => ?_)
   have hz10 := hc10.size; have hE := hE.step hc10 (fun k h => by omega); have hB5 := hB5.chg hc10 no_; have hB7 := hB7.chg hc10 no_; have hB8 := hB8.chg hc10 no_
   have hB2 : Blk w10 g2 TPa (paC A ys.length c r) := by simpa using hB10_
   have hQ := ((hQ.ext hx8).ext hx9).chg hc10 (fun k hk h => by omega)
   have hM := ((hM.ext hx8).ext hx9).chg hc10 no_
   refine WL.a rfl ?_
   refine WL.a rfl ?_
   refine WL.nil (hK18 _ _ ?_); try clear hK18
   refine CW.ret ?_
   have he : rdH (csL l) = (ys.length, hErr ((csL l).take ys.length) cm) := by rw [rdH, if_neg om_]; exact hw1
   exact ⟨_, _, _, rfl, hB2.mem, rfl, rfl, A, c, r, ys.length, ys, ys.length, by rw [he]; rfl, hQ.old om_, ⟨hQ.nds, hM, his⟩, by omega, fun h => (by rw [he] at h; exact absurd h (by assumption)), hE⟩
  refine CW.skip ?_
  refine hK15 _ _ ?_; try clear hK15
  refine CW.seq fun K19 hK19 => ?_
  have hw0 : hErr ((csL l).take ys.length) cm = 0 := Decidable.not_not.1 (by assumption)
  have hw1 := hErr_ok.1 hw0
  have hp8 := (mayI_ok hw1.may).parents
  refine CW.region ?_
  refine WL.v (Y.fieldAddr fo_historypast1 rfl) ?_
  refine WL.v (Y.load1 Tryd.underlying73 rfl hB5.mem.historypast1 rfl) ?_
  refine WL.v (Y.load Tryd.underlying36 rfl hB8.mem (sz_apiDigest _) rfl) ?_
  refine WL.m rfl ?_
  refine WL.su (Su.mapNew (b := (idD cm, ys.length)) keyDig (fun _ => rfl) Tryd.underlying73 rfl rfl rfl ((hM.ext hx8).ext hx9) (placed_none hw1.new) rfl) fun w11 hR11 => ?_
  obtain ⟨hM, hc11⟩ := hR11
  have hz11 := hc11.size
  have hE := hE.step hc11 (fun k h => by omega)
  have hQ := ((hQ.ext hx8).ext hx9).chg hc11 (fun k hk h => by omega)
  have hB2 := hB2.chg hc11 no_
  have hB5 := hB5.chg hc11 no_
  have hB7 := hB7.chg hc11 no_
  have hB8 := hB8.chg hc11 no_
  have h8n : ¬ (g8 = g5 ∨ (Value.slice A ys.length c).ownBlock = some g8) := fun h => by
   rcases h with h | h
   ·
    omega
   ·
    have := hQlt _ h; omega
  have h7n : ¬ (g7 = g5 ∨ (Value.slice A ys.length c).ownBlock = some g7) := fun h => by
   rcases h with h | h
   ·
    omega
   ·
    have := hQlt _ h; omega
  refine WL.nil (hK19 _ _ ?_); try clear hK19
  refine CW.tail (X := Option Addr × Nat × List NdV) (fun u => [(0, .slice (some a2) m2 c2), (2, .pointer (some ⟨g2, 0, none⟩)), (5, .pointer (some ⟨g5, 0, none⟩)), (16, .slice (some a2) m2 c2), (17, .int .i64 (m2 : Int)), (18, .int .i64 (ys.length : Int))]) (fun u w0 => RdAt w3 w0 u.1 u.2.1 u.2.2 ∧ u.2.2.length = ys.length + 1 ∧ ndsL u.2.2 = ndsH ((csL l).take (ys.length + 1)) ∧ Blk w0 g5 TPa (paC u.1 u.2.2.length u.2.1 r) ∧ Chg (fun k => k = g5 ∨ (Value.slice A ys.length c).ownBlock = some k) w11 w0) ?_ ?_
  ·
   skip
   refine CW.held (fun wq => Chg (fun k => k = g5 ∨ (Value.slice A ys.length c).ownBlock = some k) w11 wq ) kr_ 11 rfl fun w12 hx12 => ?_
   have hS : Chg (fun k => k = g5 ∨ (Value.slice A ys.length c).ownBlock = some k) w11 w12 := Ext.chg hx12
   have hz12 := hx12.size
   have hE := hE.thenExt hx12
   have hB5 := hB5.ext hx12
   have hQ := hQ.ext hx12
   refine RH.tk 0 hS rfl (fun wq hq => Y.fieldAddr fo_historypast0 rfl) ?_
   refine RH.tk 2 hS rfl (fun wq hq => Y.load Tryd.underlying36 rfl (hB8.chg hq (fun h => h8n h)).mem (sz_apiDigest _) rfl) ?_
   refine RH.tk 3 hS rfl (fun wq hq => Y.fieldAddr fo_apiCommit0 rfl) ?_
   refine RH.tk 4 hS rfl (fun wq hq => Y.load1 Tryd.underlying25 rfl (hB7.chg hq (fun h => h7n h)).mem.com0 rfl) ?_
   refine RH.two 1 5 kr_ ?_ ?_
   ·
    skip
    refine RS.val rfl (Y.load1 Tryd.underlying48 rfl hB5.mem.historypast0 rfl) de_ ⟨hS, ?_⟩
    refine RH.one 5 kr_ ?_
    refine RS.st rfl (St.append (news := flatD cm.parents) Tryd.underlying25 Tryd.underlying25 ai_dig rfl rfl Own.nil (Sl.src digC_length (hps.ext hE)) (one_fdH _) (by simp only [List.length_nil]; omega)) de_ fun v44 w13 hR13 => ?_
    obtain ⟨hO_a, hc_a, hf_a⟩ := hR13
    have hz_a := hc_a.size
    have hx_a : Ext w12 w13 := hc_a.toExt (fun k _ h => by simp [Value.ownBlock] at h)
    rw [List.nil_append] at hO_a
    obtain ⟨pA2, pn2, pc2, rfl⟩ := hO_a.lens
    have hpn2 : pn2 = cm.parents.length := by
     have := (hO_a.mem _ _ _ rfl).2.2.1
     rw [flat_length digC_length] at this
     omega
    subst hpn2
    have hf_a : ∀ k, (Value.slice pA2 cm.parents.length pc2).ownBlock = some k → w12.heap.size ≤ k := fun k hk => by
     rcases hf_a with h | h
     ·
      rw [h] at hk; simp [Value.ownBlock] at hk
     ·
      exact h k hk
    have hS : Chg (fun k => k = g5 ∨ (Value.slice A ys.length c).ownBlock = some k) w11  w13 := hS.thenExt hx_a
    have hB5 := hB5.ext hx_a
    have hQ := hQ.ext hx_a
    refine ⟨hS, ?_⟩
    refine RH.tk 6 hS rfl (fun wq hq => Y.build rfl (build_ndH _ cm.parents _ _ _ rfl _)) ?_
    refine RH.one 7 kr_ ?_
    refine RS.st rfl (St.buildSlice rfl (bs1_ndH ⟨⟨idD cm, cm.parents⟩, pA2, pc2⟩)) de_ fun v46 w14 hR14 => ?_
    obtain ⟨g46, rfl, hg46, hB46, hx_b⟩ := hR14
    have hz_b := hx_b.size
    have hS : Chg (fun k => k = g5 ∨ (Value.slice A ys.length c).ownBlock = some k) w11  w14 := hS.thenExt hx_b
    have hB5 := hB5.ext hx_b
    have hQ := hQ.ext hx_b
    have hO_a := hO_a.ext hx_b
    refine ⟨hS, ?_⟩
    refine RH.one 8 kr_ ?_
    refine RS.st rfl (St.append (m := 1) (news := ndC ⟨⟨idD cm, cm.parents⟩, pA2, pc2⟩) Tryd.underlying48 Tryd.underlying48 ai_ndH rfl rfl hQ.own (Fw.Src.one hB46 (ndC_length _)) one_ndC (by rw [flat_nd]; omega)) de_ fun v47 w15 hR15 => ?_
    obtain ⟨hO_c, hc_c, hf_c⟩ := hR15
    have hz_c := hc_c.size
    obtain ⟨A5, n5, c5, rfl⟩ := hO_c.lens
    obtain ⟨hn5, hQ2⟩ := hQ.add (y := ⟨⟨idD cm, cm.parents⟩, pA2, pc2⟩) hO_a (fun k hk => ⟨by have := hf_a k hk; omega, fun e => by have := hf_a k hk; have := hQlt k e; omega⟩) hO_c hc_c hf_c om_
    have hS : Chg (fun k => k = g5 ∨ (Value.slice A ys.length c).ownBlock = some k) w11  w15 := hS.trans hc_c (fun k _ h => .inr h)
    have hB5 := hB5.chg hc_c (fun h => by have := hQ.new _ h; omega)
    refine ⟨hS, ?_⟩
    refine RH.tk 9 hS rfl (fun wq hq => Y.fieldAddr fo_historypast0 rfl) ?_
    refine RH.one 10 kr_ ?_
    refine RS.store rfl (g := g5) (pre := []) (old := [.slice A ys.length c]) (post := [.map (some r)]) (new := [.slice A5 n5 c5]) rfl rfl rfl rfl kr_ hB5 rfl (one1 rfl) (fun w16 hc16 hB16_ => ?_)
    have hS : Chg (fun k => k = g5 ∨ (Value.slice A ys.length c).ownBlock = some k) w11  w16 := hS.trans hc16 (fun k _ h => .inl h)
    have hQ2 := hQ2.chg hc16 (fun k hk h => by omega)
    have hB5 : Blk w16 g5 TPa (paC A5 n5 c5 r) := hB16_
    refine ⟨hS, ?_⟩
    refine RH.done kr_ ?_
    skip
    refine ⟨(A5, c5, ys ++ [⟨⟨idD cm, cm.parents⟩, pA2, pc2⟩]), Fr.ok, hQ2, by simp, ?_, by rw [← hn5]; exact hB5, hS⟩
    show ndsL (ys ++ [_]) = ndsH ((csL l).take (ys.length + 1))
    rw [ndsL, List.map_append, ← ndsL, his, take_succ (cs_at hcx), ndsH, ndsH, List.map_append]; rfl
   ·
    skip
    refine RS.st rfl (St.append (news := flatD cm.parents) Tryd.underlying25 Tryd.underlying25 ai_dig rfl rfl Own.nil (Sl.src digC_length (hps.ext hE)) (one_fdH _) (by simp only [List.length_nil]; omega)) de_ fun v44 w17 hR17 => ?_
    obtain ⟨hO_a, hc_a, hf_a⟩ := hR17
    have hz_a := hc_a.size
    have hx_a : Ext w12 w17 := hc_a.toExt (fun k _ h => by simp [Value.ownBlock] at h)
    rw [List.nil_append] at hO_a
    obtain ⟨pA2, pn2, pc2, rfl⟩ := hO_a.lens
    have hpn2 : pn2 = cm.parents.length := by
     have := (hO_a.mem _ _ _ rfl).2.2.1
     rw [flat_length digC_length] at this
     omega
    subst hpn2
    have hf_a : ∀ k, (Value.slice pA2 cm.parents.length pc2).ownBlock = some k → w12.heap.size ≤ k := fun k hk => by
     rcases hf_a with h | h
     ·
      rw [h] at hk; simp [Value.ownBlock] at hk
     ·
      exact h k hk
    have hS : Chg (fun k => k = g5 ∨ (Value.slice A ys.length c).ownBlock = some k) w11  w17 := hS.thenExt hx_a
    have hB5 := hB5.ext hx_a
    have hQ := hQ.ext hx_a
    refine ⟨hS, ?_⟩
    refine RH.tk 6 hS rfl (fun wq hq => Y.build rfl (build_ndH _ cm.parents _ _ _ rfl _)) ?_
    refine RH.two 1 7 kr_ ?_ ?_
    ·
     skip
     refine RS.val rfl (Y.load1 Tryd.underlying48 rfl hB5.mem.historypast0 rfl) de_ ⟨hS, ?_⟩
     refine RH.one 7 kr_ ?_
     refine RS.st rfl (St.buildSlice rfl (bs1_ndH ⟨⟨idD cm, cm.parents⟩, pA2, pc2⟩)) de_ fun v46 w18 hR18 => ?_
     obtain ⟨g46, rfl, hg46, hB46, hx_b⟩ := hR18
     have hz_b := hx_b.size
     have hS : Chg (fun k => k = g5 ∨ (Value.slice A ys.length c).ownBlock = some k) w11  w18 := hS.thenExt hx_b
     have hB5 := hB5.ext hx_b
     have hQ := hQ.ext hx_b
     have hO_a := hO_a.ext hx_b
     refine ⟨hS, ?_⟩
     refine RH.one 8 kr_ ?_
     refine RS.st rfl (St.append (m := 1) (news := ndC ⟨⟨idD cm, cm.parents⟩, pA2, pc2⟩) Tryd.underlying48 Tryd.underlying48 ai_ndH rfl rfl hQ.own (Fw.Src.one hB46 (ndC_length _)) one_ndC (by rw [flat_nd]; omega)) de_ fun v47 w19 hR19 => ?_
     obtain ⟨hO_c, hc_c, hf_c⟩ := hR19
     have hz_c := hc_c.size
     obtain ⟨A5, n5, c5, rfl⟩ := hO_c.lens
     obtain ⟨hn5, hQ2⟩ := hQ.add (y := ⟨⟨idD cm, cm.parents⟩, pA2, pc2⟩) hO_a (fun k hk => ⟨by have := hf_a k hk; omega, fun e => by have := hf_a k hk; have := hQlt k e; omega⟩) hO_c hc_c hf_c om_
     have hS : Chg (fun k => k = g5 ∨ (Value.slice A ys.length c).ownBlock = some k) w11  w19 := hS.trans hc_c (fun k _ h => .inr h)
     have hB5 := hB5.chg hc_c (fun h => by have := hQ.new _ h; omega)
     refine ⟨hS, ?_⟩
     refine RH.tk 9 hS rfl (fun wq hq => Y.fieldAddr fo_historypast0 rfl) ?_
     refine RH.one 10 kr_ ?_
     refine RS.store rfl (g := g5) (pre := []) (old := [.slice A ys.length c]) (post := [.map (some r)]) (new := [.slice A5 n5 c5]) rfl rfl rfl rfl kr_ hB5 rfl (one1 rfl) (fun w20 hc20 hB20_ => ?_)
     have hS : Chg (fun k => k = g5 ∨ (Value.slice A ys.length c).ownBlock = some k) w11  w20 := hS.trans hc20 (fun k _ h => .inl h)
     have hQ2 := hQ2.chg hc20 (fun k hk h => by omega)
     have hB5 : Blk w20 g5 TPa (paC A5 n5 c5 r) := hB20_
     refine ⟨hS, ?_⟩
     refine RH.done kr_ ?_
     skip
     refine ⟨(A5, c5, ys ++ [⟨⟨idD cm, cm.parents⟩, pA2, pc2⟩]), Fr.ok, hQ2, by simp, ?_, by rw [← hn5]; exact hB5, hS⟩
     show ndsL (ys ++ [_]) = ndsH ((csL l).take (ys.length + 1))
     rw [ndsL, List.map_append, ← ndsL, his, take_succ (cs_at hcx), ndsH, ndsH, List.map_append]; rfl
    ·
     skip
     refine RS.st rfl (St.buildSlice rfl (bs1_ndH ⟨⟨idD cm, cm.parents⟩, pA2, pc2⟩)) de_ fun v46 w21 hR21 => ?_
     obtain ⟨g46, rfl, hg46, hB46, hx_b⟩ := hR21
     have hz_b := hx_b.size
     have hS : Chg (fun k => k = g5 ∨ (Value.slice A ys.length c).ownBlock = some k) w11  w21 := hS.thenExt hx_b
     have hB5 := hB5.ext hx_b
     have hQ := hQ.ext hx_b
     have hO_a := hO_a.ext hx_b
     refine ⟨hS, ?_⟩
     refine RH.one 1 kr_ ?_
     refine RS.val rfl (Y.load1 Tryd.underlying48 rfl hB5.mem.historypast0 rfl) de_ ⟨hS, ?_⟩
     refine RH.one 8 kr_ ?_
     refine RS.st rfl (St.append (m := 1) (news := ndC ⟨⟨idD cm, cm.parents⟩, pA2, pc2⟩) Tryd.underlying48 Tryd.underlying48 ai_ndH rfl rfl hQ.own (Fw.Src.one hB46 (ndC_length _)) one_ndC (by rw [flat_nd]; omega)) de_ fun v47 w22 hR22 => ?_
     obtain ⟨hO_c, hc_c, hf_c⟩ := hR22
     have hz_c := hc_c.size
     obtain ⟨A5, n5, c5, rfl⟩ := hO_c.lens
     obtain ⟨hn5, hQ2⟩ := hQ.add (y := ⟨⟨idD cm, cm.parents⟩, pA2, pc2⟩) hO_a (fun k hk => ⟨by have := hf_a k hk; omega, fun e => by have := hf_a k hk; have := hQlt k e; omega⟩) hO_c hc_c hf_c om_
     have hS : Chg (fun k => k = g5 ∨ (Value.slice A ys.length c).ownBlock = some k) w11  w22 := hS.trans hc_c (fun k _ h => .inr h)
     have hB5 := hB5.chg hc_c (fun h => by have := hQ.new _ h; omega)
     refine ⟨hS, ?_⟩
     refine RH.tk 9 hS rfl (fun wq hq => Y.fieldAddr fo_historypast0 rfl) ?_
     refine RH.one 10 kr_ ?_
     refine RS.store rfl (g := g5) (pre := []) (old := [.slice A ys.length c]) (post := [.map (some r)]) (new := [.slice A5 n5 c5]) rfl rfl rfl rfl kr_ hB5 rfl (one1 rfl) (fun w23 hc23 hB23_ => ?_)
     have hS : Chg (fun k => k = g5 ∨ (Value.slice A ys.length c).ownBlock = some k) w11  w23 := hS.trans hc23 (fun k _ h => .inl h)
     have hQ2 := hQ2.chg hc23 (fun k hk h => by omega)
     have hB5 : Blk w23 g5 TPa (paC A5 n5 c5 r) := hB23_
     refine ⟨hS, ?_⟩
     refine RH.done kr_ ?_
     skip
     refine ⟨(A5, c5, ys ++ [⟨⟨idD cm, cm.parents⟩, pA2, pc2⟩]), Fr.ok, hQ2, by simp, ?_, by rw [← hn5]; exact hB5, hS⟩
     show ndsL (ys ++ [_]) = ndsH ((csL l).take (ys.length + 1))
     rw [ndsL, List.map_append, ← ndsL, his, take_succ (cs_at hcx), ndsH, ndsH, List.map_append]; rfl
  rintro u w24 f24 hj24 hle24
  obtain ⟨A5, c5, ys2⟩ := u
  dsimp only at hj24 ⊢
  obtain ⟨hQ2, hyl, his2, hB5, hS⟩ := hj24
  have hE := hE.step hS (fun k h => by rcases h with h | h; omega; (have := hQ.new k h; omega))
  have hz24 := hS.size
  have hB2 := hB2.chg hS (fun h => by rcases h with h | h; omega; (have := hQ.new _ h; omega))
  have hM := hM.chg hS (fun h => by rcases h with h | h; omega; (have := hQ.new _ h; omega))
  have hnn : ((ys.length : Int) + 1) = ((ys2.length : Nat) : Int) := by omega
  refine hK12 _ _ ?_; try clear hK12
  refine CW.weaken hle24 ?_
  refine CW.region ?_
  refine WL.v (Y.add rfl rfl o2_) ?_
  refine WL.m rfl ?_
  refine WL.nil ?_
  rw [hnn]
  refine ⟨(A5, c5, ys2), by show m2 - ys2.length < m2 - ys.length; omega, Fr.ok, by show ys2.length ≤ m2; omega, hQ2, by rw [hyl]; exact his2, ?_, ?_, ?_, hB2, hB5, hE, by omega⟩
  ·
   show MapAt _ r pme (placed (idsH ((csL l).take ys2.length))) ys2.length
   rw [hyl, take_succ (cs_at hcx), idsH, List.map_append, List.map_cons, List.map_nil, placed_app]
   have e : (List.map idD (List.take ys.length (csL l))).length = ys.length := by rw [List.length_map]; exact htl
   rw [e]; exact hM
  ·
   show HOk ((csL l).take ys2.length)
   rw [hyl, take_succ (cs_at hcx)]
   exact hok.snoc hw1
  ·
   show hread (csL l) [] = _
   rw [hrd, hyl]
   exact hread_step (cs_at hcx) hw0
 refine CW.exit ?_
 refine hK7 _ _ ?_; try clear hK7
 refine CW.sr fun K20 hK20 => ?_
 refine WL.v (Y.load Tryd.underlying75 rfl hB5.mem (sz_historypast _ _) rfl) ?_
 refine WL.store (g := g2) (pre := []) (old := [.slice none 0 0, .map none]) (post := []) (new := paC A ys.length c r) rfl rfl rfl rfl kr_ (by simpa using hB2) ln_ (one2 rfl rfl) (fun w25 hc25 hB25_ => ?_)
 have hz25 := hc25.size; have hE := hE.step hc25 (fun k h => by omega); have hB5 := hB5.chg hc25 no_
 have hB2 : Blk w25 g2 TPa (paC A ys.length c r) := by simpa using hB25_
 have hQ := hQ.chg hc25 (fun k hk h => by omega)
 have hM := hM.chg hc25 no_
 refine WL.a rfl ?_
 refine WL.a rfl ?_
 refine WL.nil (hK20 _ _ ?_); try clear hK20
 refine CW.ret ?_
 have hym : ys.length = m2 := by omega
 have he : rdH (csL l) = (0, 0) := by
  rw [rdH, if_neg om_, hrd, List.drop_of_length_le om_]; rfl
 exact ⟨_, _, _, rfl, hB2.mem, rfl, rfl, A, c, r, ys.length, ys, ys.length, by rw [he]; rfl, hQ.old om_, ⟨hQ.nds, hM, his⟩, by omega, fun _ => by omega, hE⟩
theorem hcheck_any (u : Value) (l : List CoV) (w : World) (hl : Hcs w u l) (hK : Mem w ⟨0, 0, none⟩ (wds keysL)) : Calls Tryd.prog 10 #[u] w (Ret fun v w' => v = .tuple #[.int .i64 ((rdH (csL l)).1 : Int), .int .i64 (rdH (csL l)).2] ∧ Ext w w') := by
 refine calls_of_CW 15 [2, 3] [(0, u)] Tryd.func10 rfl rfl rfl (by simp) args1 ?_
 have hE : Ext w w := Chg.refl
 refine CW.sr fun K1 hK1 => ?_
 refine WL.a rfl ?_
 refine WL.a rfl ?_
 refine WL.nil (hK1 _ _ ?_); try clear hK1
 refine CW.sr fun K2 hK2 => ?_
 refine WL.m rfl ?_
 refine WL.call Tryd.func23 rfl rfl rfl (hread_any u l _ hl hK) (by simp) ?_; rintro v9 w1 hR1
 obtain ⟨A, c, r, cl, ys, k, rfl, hQ, hP, hr, hk, hx1⟩ := hR1
 have hz1 := hx1.size
 have hE := hE.thenExt hx1
 refine WL.m rfl ?_
 refine WL.v (Y.extract rfl rfl) ?_
 refine WL.v (Y.extract rfl rfl) ?_
 refine WL.v (Y.extract rfl rfl) ?_
 refine as_historypast rfl (by simp) de_ fun g4 w2 hx2 hg4 hB4 => ?_
 have hlt4 := hB4.lt; have hz2 := hx2.size
 have hM4 := hB4.mem; have hz2 := hx2.size; have hE := hE.thenExt hx2
 refine WL.a rfl ?_
 refine WL.a rfl ?_
 refine WL.nil (hK2 _ _ ?_); try clear hK2
 refine CW.sr fun K3 hK3 => ?_
 refine WL.m rfl ?_
 refine WL.m rfl ?_
 refine WL.a rfl ?_
 refine WL.a rfl ?_
 refine WL.nil (hK3 _ _ ?_); try clear hK3
 refine CW.ret ⟨_, rfl, ?_⟩
 exact ⟨rfl, hE⟩
theorem hnodes_any (u : Value) (l : List CoV) (w : World) (hl : Hcs w u l) (hK : Mem w ⟨0, 0, none⟩ (wds keysL)) : Calls Tryd.prog 14 #[u] w (Ret fun v w' => ∃ A c ys, v = .tuple #[.slice A ys.length c, .int .i64 (rdH (csL l)).2] ∧ RdAt w w' A c ys ∧ ndsL ys = (if (rdH (csL l)).2 = 0 then ndsH (csL l) else []) ∧ Ext w w') := by
 refine calls_of_CW 18 [2, 3] [(0, u)] Tryd.func14 rfl rfl rfl (by simp) args1 ?_
 have hE : Ext w w := Chg.refl
 refine CW.sr fun K1 hK1 => ?_
 refine WL.a rfl ?_
 refine WL.a rfl ?_
 refine WL.nil (hK1 _ _ ?_); try clear hK1
 refine CW.sr fun K2 hK2 => ?_
 refine WL.m rfl ?_
 refine WL.call Tryd.func23 rfl rfl rfl (hread_any u l _ hl hK) (by simp) ?_; rintro v9 w1 hR1
 obtain ⟨A, c, r, cl, ys, k, rfl, hQ, hP, hr, hk, hx1⟩ := hR1
 have hz1 := hx1.size
 have hE := hE.thenExt hx1
 refine WL.m rfl ?_
 refine WL.v (Y.extract rfl rfl) ?_
 refine WL.v (Y.extract rfl rfl) ?_
 refine WL.v (Y.extract rfl rfl) ?_
 refine as_historypast rfl (by simp) de_ fun g4 w2 hx2 hg4 hB4 => ?_
 have hlt4 := hB4.lt; have hz2 := hx2.size
 have hM4 := hB4.mem; have hz2 := hx2.size; have hE := hE.thenExt hx2
 refine WL.a rfl ?_
 refine WL.a rfl ?_
 refine WL.nil (hK2 _ _ ?_); try clear hK2
 refine CW.seq fun K3 hK3 => ?_
 refine CW.sr fun K4 hK4 => ?_
 refine WL.m rfl ?_
 refine WL.v (Y.neq rfl rfl) ?_
 refine WL.nil (hK4 _ _ ?_); try clear hK4
 (first | refine cd_ rfl ?_ ?_ | refine ce_ rfl ?_ ?_ | refine cn_ rfl ?_ ?_ | refine cb_ rfl ?_ ?_) <;> intro ht5
 ·
  -- then
  refine CW.sr fun K6 hK6 => ?_
  refine WL.m rfl ?_
  refine WL.a rfl ?_
  refine WL.a rfl ?_
  refine WL.nil (hK6 _ _ ?_); try clear hK6
  refine CW.ret ⟨_, rfl, ?_⟩
  exact ⟨none, 0, [], rfl, RdAt.nil, by rw [if_neg (by assumption)]; rfl, hE⟩
 refine CW.skip ?_
 refine hK3 _ _ ?_; try clear hK3
 refine CW.sr fun K7 hK7 => ?_
 refine WL.v (Y.fieldAddr fo_historypast0 rfl) ?_
 refine WL.v (Y.load1 Tryd.underlying48 rfl hB4.mem.historypast0 rfl) ?_
 refine WL.a rfl ?_
 refine WL.a rfl ?_
 refine WL.nil (hK7 _ _ ?_); try clear hK7
 refine CW.ret ⟨_, rfl, ?_⟩
 have h0 : (rdH (csL l)).2 = 0 := Decidable.not_not.1 (by assumption)
 exact ⟨A, c, ys, by rw [h0], hQ.ext hx2, by rw [if_pos h0, hP.is, hk h0, List.take_of_length_le (by rw [List.length_map]; exact Nat.le_refl _)], hE⟩
end Go.Proofs.YtmehkigmnpjcjaaDoor
