/- Parts of a proof: what its last text leans on. No condition. -/
import Derived.Test.YtmehkigmnpjcjaaDoorK27
import Derived.Test.YtmehkigmnpjcjaaDoorK28
set_option linter.unusedSimpArgs false
set_option linter.unusedVariables false
/- EditGrows, walked. No condition but bounds and the table of digest.keys. -/
namespace Go.Proofs.YtmehkigmnpjcjaaDoor
open Go.RowKit Go.Fw Go.Pl Go.Sort Go.Fu
theorem sz0_string : (Tryd.prog.info? 9).map (·.size) = some 1 := by kernel_rfl
theorem ec_sizes {P : List ComD} {ids : List Dig} {au no : ByteArray} {b : List UInt8} (h1 : au.size ≤ maxLen) (h2 : no.size ≤ maxLen) : (ecR P ids au no b).author.size ≤ maxLen ∧ (ecR P ids au no b).note.size ≤ maxLen := by
 unfold ecR
 split
 ·
  exact ⟨h1, h2⟩
 ·
  exact ⟨by decide, by decide⟩
set_option maxRecDepth 100000 in
set_option maxHeartbeats 4000000 in
theorem egrows_any (u s1 : Value) (l : List CoV) (so : List Int) (au no : ByteArray) (b : List UInt8) (w : World) (hl : Hcs w u l) (h1 : Sl w i1C 1 s1 so) (hnl : l.length ≤ 1048576) (hns : so.length ≤ 1048576) (hau : au.size ≤ maxLen) (hno : no.size ≤ maxLen) (hbl : b.length < 4611686018427387904) (hK : Mem w ⟨0, 0, none⟩ (wds keysL)) : Calls Tryd.prog 3 #[u, s1, .agg #[.string au, .string no, .string (bs b)]] w (Ret fun v w' => v = .bool true ∧ Ext w w') := by
 have hE0 : Ext w w := Chg.refl
 obtain ⟨A2, m2, c2, rfl, hlm, hmc, hcm, hlg⟩ := id hl.sl
 unfold maxLen at hcm
 have hcl : (csL l).length = m2 := by rw [List.length_map]; exact hlm
 refine calls_of_CW 125 [6] [(0, .slice A2 m2 c2), (1, s1), (2, .agg #[.string au, .string no, .string (bs b)])] Tryd.func3 rfl rfl rfl (by simp) args3 ?_
 have hE : Ext w w := Chg.refl
 refine CW.sr fun K1 hK1 => ?_
 refine WL.box rfl rfl de_ fun g5 w1 hx1 hg5 hB5 => ?_
 have hlt5 := hB5.lt; have hz1 := hx1.size
 have hM5 := hB5.mem; have hz1 := hx1.size; have hE := hE.thenExt hx1
 refine WL.a rfl ?_
 refine WL.nil (hK1 _ _ ?_); try clear hK1
 refine CW.sr fun K2 hK2 => ?_
 refine WL.m rfl ?_
 refine WL.m rfl ?_
 refine WL.call Tryd.func4 rfl rfl rfl (pick_any _ _ l so _ (hl.ext hE) (h1.ext hE) om_ (hK.ext hE)) (by simp) ?_; rintro v21 w2 hR2
 obtain ⟨hO2, hfu2, hx2⟩ := hR2
 have hz2 := hx2.size
 have hE := hE.thenExt hx2
 have hB5 := hB5.ext hx2
 have hSx_ := hO2.sl digC_length de_
 have hnx : (pickL (csL l) so).length = so.length := by rw [pickL, List.length_map]
 generalize pickL (csL l) so = ix at hSx_ hnx
 have hE0 := hE0.thenExt hE
 have hl := hl.ext hE
 have hK := hK.ext hE
 clear hE
 have hE : Ext w2 w2 := Chg.refl
 have hSx := hSx_
 obtain ⟨Ax, mx, cx, rfl, hmx_, _⟩ := id hSx
 refine WL.a rfl ?_
 refine WL.nil (hK2 _ _ ?_); try clear hK2
 refine CW.sr fun K3 hK3 => ?_
 refine WL.m rfl ?_
 refine WL.m rfl ?_
 refine WL.v (Y.indexAddrAN (i := 0) Tryd.underlying24 rfl rfl sz0_string de_) ?_
 refine WL.v (Y.load1 Tryd.underlying9 rfl (hB5.mem.cell 0 rfl) rfl) ?_
 refine WL.v (Y.indexAddrAN (i := 1) Tryd.underlying24 rfl rfl sz0_string de_) ?_
 refine WL.v (Y.load1 Tryd.underlying9 rfl (hB5.mem.cell 1 rfl) rfl) ?_
 refine WL.v (Y.indexAddrAN (i := 2) Tryd.underlying24 rfl rfl sz0_string de_) ?_
 refine WL.v (Y.load1 Tryd.underlying9 rfl (hB5.mem.cell 2 rfl) rfl) ?_
 refine WL.call Tryd.func5 rfl rfl rfl (ecommit_any _ _ l ix au no b _ (hl.ext hE) (hSx.ext hE) om_ hau hno hbl (hK.ext hE)) (by simp) ?_; rintro v31 w3 hR3
 obtain ⟨pv, ov, rfl, hOp, hOo, hfp, hfo, hx3⟩ := hR3
 have hz3 := hx3.size
 have hE := hE.thenExt hx3
 have hB5 := hB5.ext hx3
 have hE0 := hE0.thenExt hE
 have hl := hl.ext hE
 have hK := hK.ext hE
 have hSx := hSx.ext hE
 clear hE
 have hE : Ext w3 w3 := Chg.refl
 obtain ⟨cc, hcc⟩ : ∃ c, c = ecR (csL l) ix au no b := ⟨_, rfl⟩
 rw [← hcc] at hOp hOo ⊢
 obtain ⟨A6, n6, c6, rfl⟩ := hOp.lens
 obtain ⟨B6, m6, d6, rfl⟩ := hOo.lens
 have hcz : cc.author.size ≤ maxLen ∧ cc.note.size ≤ maxLen := by rw [hcc]; exact ec_sizes hau hno
 have hcom : Com w3 (.agg (comC (.slice A6 n6 c6) cc.author cc.note (.slice B6 m6 d6)).toArray) cc := ⟨_, _, rfl, hOp.sl digC_length de_, hOo.sl opC_length de_, hcz.1, hcz.2⟩
 refine WL.m rfl ?_
 refine WL.v (Y.extract rfl rfl) ?_
 refine WL.v (Y.extract rfl rfl) ?_
 refine as_apiCommit rfl (by simp) de_ fun g8 w4 hx4 hg8 hB8 => ?_
 have hlt8 := hB8.lt; have hz4 := hx4.size
 have hM8 := hB8.mem; have hz4 := hx4.size; have hE := hE.thenExt hx4; have hB5 := hB5.ext hx4
 refine WL.a rfl ?_
 refine WL.nil (hK3 _ _ ?_); try clear hK3
 refine CW.seq fun K4 hK4 => ?_
 refine CW.sr fun K5 hK5 => ?_
 refine WL.m rfl ?_
 refine WL.v (Y.neq rfl rfl) ?_
 refine WL.nil (hK5 _ _ ?_); try clear hK5
 (first | refine cd_ rfl ?_ ?_ | refine ce_ rfl ?_ ?_ | refine cn_ rfl ?_ ?_ | refine cb_ rfl ?_ ?_) <;> intro ht6
 ·
  -- then
  refine CW.seq fun K7 hK7 => ?_
  have hcn : cc = nilC := by rw [hcc, ecR, if_neg (by assumption)]
  refine CW.region ?_
  refine WL.v (Y.load Tryd.underlying29 rfl hB8.mem (sz_apiCommit _ _ _ _) rfl) ?_
  refine WL.v (Y.build0 (build_apiCommit _)) ?_
  refine WL.call Tryd.func6 rfl rfl rfl (rSame_any _ _ cc nilC _ (hcom.ext hE) (com_nil _)) (by simp) ?_; rintro v w5 ⟨rfl, hx5⟩; have hz5 := hx5.size; have hE := hE.thenExt hx5; have hB5 := hB5.ext hx5; have hB8 := hB8.ext hx5
  refine WL.m rfl ?_
  refine WL.know (d := 39) (u := .bool true) rfl (by rw [hcn, sameB_self]) ?_
  refine WL.gcall rfl rfl Tryd.func7 rfl rfl rfl (ealive_any _) de_ ?_; rintro v w6 ⟨rfl, hx6⟩; have hz6 := hx6.size; have hE := hE.thenExt hx6; have hB5 := hB5.ext hx6; have hB8 := hB8.ext hx6
  refine WL.v (Y.pick rfl rfl) ?_
  refine WL.a rfl ?_
  refine WL.nil (hK7 _ _ ?_); try clear hK7
  refine CW.ret ⟨_, rfl, ?_⟩
  exact ⟨rfl, hE0.thenExt hE⟩
 refine CW.skip ?_
 refine hK4 _ _ ?_; try clear hK4
 refine CW.seq fun K8 hK8 => ?_
 have he0 : ecE (csL l) ix au no b = 0 := Decidable.not_not.1 (by assumption)
 have hok := ecE_ok he0
 have hcC : cc = ecC (csL l) ix au no b := by rw [hcc, ecR, if_pos he0]
 have hm0 : mayI cc = 0 := by rw [hcC]; exact ec_may hok
 have hpl := (mayI_ok hm0).parents
 have hol := (mayI_ok hm0).ops
 obtain ⟨hP200, hPk, _⟩ := txE_ok.1 (ec_tx hok.mg)
 refine CW.region ?_
 refine WL.v (Y.load Tryd.underlying29 rfl hB8.mem (sz_apiCommit _ _ _ _) rfl) ?_
 refine WL.call Tryd.func8 rfl rfl rfl (id_any _ cc _ (hcom.ext hE) (hK.ext hE)) (by simp) ?_; rintro v w7 ⟨rfl, hx7⟩; have hz7 := hx7.size; have hE := hE.thenExt hx7; have hB5 := hB5.ext hx7; have hB8 := hB8.ext hx7
 refine WL.m rfl ?_
 refine WL.v (Y.extract rfl rfl) ?_
 refine WL.v (Y.extract rfl rfl) ?_
 refine as_apiDigest rfl (by simp) de_ fun g10 w8 hx8 hg10 hB10 => ?_
 have hlt10 := hB10.lt; have hz8 := hx8.size
 have hM10 := hB10.mem; have hz8 := hx8.size; have hE := hE.thenExt hx8; have hB5 := hB5.ext hx8; have hB8 := hB8.ext hx8
 refine WL.a rfl ?_
 refine WL.nil (hK8 _ _ ?_); try clear hK8
 refine CW.seq fun K9 hK9 => ?_
 refine CW.held (fun wq => Ext w8 wq) kr_ 8 rfl fun w9 hS => ?_
 refine RH.tk 1 hS rfl (fun wq hq => Y.move rfl) ?_
 refine RH.tk 3 hS rfl (fun wq hq => Y.load Tryd.underlying29 rfl (hB8.ext hq).mem (sz_apiCommit _ _ _ _) rfl) ?_
 refine RH.one 0 kr_ ?_
 refine RS.st rfl (St.buildSlice0 Tryd.underlying22 sz0_apiCommit) de_ fun v47 w10 hR10 => ?_
 obtain ⟨g47, rfl, hg47, hO47, hx10⟩ := hR10
 have hz9_ := hS.size
 have hz10 := hx10.size
 have hS := hS.thenExt hx10
 refine ⟨hS, ?_⟩
 refine RH.one 2 kr_ ?_
 refine RS.st rfl (St.append (news := (l.map coC).flatten) Tryd.underlying22 Tryd.underlying22 ai_co rfl rfl hO47 (Sl.src coC_length (hl.ext (hE.thenExt hS)).sl) one_coF (by simp only [List.length_nil]; omega)) de_ fun v49 w11 hR11 => ?_
 obtain ⟨hO49, hc11, hf49⟩ := hR11
 have hz11 := hc11.size
 rw [List.nil_append] at hO49
 have hS := hS.step hc11 (fun k h => by simp [Value.ownBlock] at h; omega)
 have hf49 : ∀ k, v49.ownBlock = some k → w8.heap.size ≤ k := fun k hk => by
  rcases hf49 with h | h
  ·
   rw [h] at hk; simp [Value.ownBlock] at hk; omega
  ·
   have := h k hk; omega
 have hO49lt := hO49.lt
 refine ⟨hS, ?_⟩
 refine RH.one 4 kr_ ?_
 refine RS.call rfl (fun _ _ h => by cases h) Tryd.func9 rfl rfl rfl (own2_any _ cc _ (hcom.ext (hE.thenExt hS)) om_ om_) de_ fun v51 w12 hR12 => ?_
 obtain ⟨y, rfl, hyc, hyA, hyf, hx12⟩ := own2_cov hR12
 have hz12 := hx12.size
 have hS := hS.thenExt hx12
 have hO49 := hO49.ext hx12
 refine ⟨hS, ?_⟩
 refine RH.one 5 kr_ ?_
 refine RS.st rfl (St.buildSlice rfl (bs1_co y)) de_ fun v52 w13 hR13 => ?_
 obtain ⟨g52, rfl, hg52, hB52, hx13⟩ := hR13
 have hz13 := hx13.size
 have hS := hS.thenExt hx13
 have hO49 := hO49.ext hx13
 have hyA := hyA.ext hx13
 refine ⟨hS, ?_⟩
 refine RH.one 6 kr_ ?_
 refine RS.st rfl (St.append (m := 1) Tryd.underlying22 Tryd.underlying22 ai_co rfl rfl hO49 (Fw.Src.one hB52 rfl) (one_coF (l := [y])) (by rw [flat_length coC_length]; omega)) de_ fun v53 w14 hR14 => ?_
 obtain ⟨hO53, hc14, hf53⟩ := hR14
 have hz14 := hc14.size
 have hyA := hyA.chg hc14 (fun k hk => hyf k (hO49lt k hk))
 have hS := hS.step hc14 (fun k h => hf49 k h)
 have hlS := hl.ext (hE.thenExt hS)
 have hA : Hcs w14 v53 (l ++ [y]) := ⟨Own.sl (xs := l ++ [y]) (by rw [List.map_append, List.flatten_append]; simpa using hO53) coC_length de_, fun x hx => by
  rcases List.mem_append.1 hx with h | h
  ·
   exact hlS.all x h
  ·
   rw [List.mem_singleton] at h; exact h ▸ hyA.co⟩
 have hcsA : csL (l ++ [y]) = (csL l ++ [cc]) := by rw [csL, List.map_append, List.map_singleton, hyc]
 refine ⟨hS, ?_⟩
 refine RH.tk 7 hS rfl (fun wq hq => Y.assign rfl) ?_
 refine RH.done kr_ ?_
 have hx15 := hS; have hz15 := hx15.size; have hE := hE.thenExt hx15; have hB5 := hB5.ext hx15; have hB8 := hB8.ext hx15; have hB10 := hB10.ext hx15
 refine hK9 _ _ ?_; try clear hK9
 refine CW.seq fun K10 hK10 => ?_
 have hE0 := hE0.thenExt hE
 have hl := hl.ext hE
 have hK := hK.ext hE
 have hSx := hSx.ext hE
 have hcom := hcom.ext hE
 clear hE
 have hE : Ext w14 w14 := Chg.refl
 refine CW.region ?_
 refine WL.m rfl ?_
 refine WL.call Tryd.func10 rfl rfl rfl (by have h9 := hcheck_any _ (l ++ [y]) _ (hA.ext hE) (hK.ext hE); rw [hcsA] at h9; exact h9) (by simp) ?_; rintro v w16 ⟨rfl, hx16⟩; have hz16 := hx16.size; have hE := hE.thenExt hx16; have hB5 := hB5.ext hx16; have hB8 := hB8.ext hx16; have hB10 := hB10.ext hx16
 refine WL.m rfl ?_
 refine WL.v (Y.extract rfl rfl) ?_
 refine WL.v (Y.extract rfl rfl) ?_
 refine WL.a rfl ?_
 refine WL.a rfl ?_
 refine WL.nil (hK10 _ _ ?_); try clear hK10
 refine CW.seq fun K11 hK11 => ?_
 refine CW.sr fun K12 hK12 => ?_
 refine WL.m rfl ?_
 refine WL.v (Y.neq rfl rfl) ?_
 refine WL.nil (hK12 _ _ ?_); try clear hK12
 (first | refine cd_ rfl ?_ ?_ | refine ce_ rfl ?_ ?_ | refine cn_ rfl ?_ ?_ | refine cb_ rfl ?_ ?_) <;> intro ht13
 ·
  -- then
  refine CW.sr fun K14 hK14 => ?_
  refine WL.a rfl ?_
  refine WL.nil (hK14 _ _ ?_); try clear hK14
  refine CW.ret ⟨_, rfl, ?_⟩
  exact absurd hm0 (by assumption)
 refine CW.skip ?_
 refine hK11 _ _ ?_; try clear hK11
 refine CW.seq fun K15 hK15 => ?_
 have hsn : (rdH (csL l ++ [cc])).2 = 0 ∨ rdH (csL l ++ [cc]) = ((csL l).length, 6) ∨ rdH (csL l ++ [cc]) = (0, 4) := by rw [hcC]; exact rdH_snoc hPk (ec_err hok)
 refine CW.seq_test 66 ((rdH (csL l ++ [cc])).2 = 6 ∨ (rdH (csL l ++ [cc])).2 = 4) ?_ ?_
 ·
  refine CW.region ?_
  refine WL.m rfl ?_
  refine WL.v (Y.eql rfl rfl) ?_
  refine WL.m rfl ?_
  (first | refine WL.casesD (d := 63) rfl ?_ ?_ | refine WL.casesND (d := 63) rfl ?_ ?_ | refine WL.cases (d := 63) rfl ?_ ?_) <;> intro hg63
  ·
   -- t63 = T
   refine WL.o rfl rfl ?_
   refine WL.o rfl rfl ?_
   refine WL.v (Y.pick rfl rfl) ?_
   refine WL.nil ⟨⟨_, rfl, ?_⟩, rfl, Fr.okp⟩
   exact tst_ok
  ·
   -- t63 = F
   refine WL.g rfl rfl (Y.move rfl) ?_
   refine WL.g rfl rfl (Y.eql rfl rfl) ?_
   refine WL.v (Y.pick rfl rfl) ?_
   refine WL.nil ⟨⟨_, rfl, ?_⟩, rfl, Fr.okp⟩
   exact tst_ok
 (first | refine cd_ rfl ?_ ?_ | refine ce_ rfl ?_ ?_ | refine cn_ rfl ?_ ?_ | refine cb_ rfl ?_ ?_) <;> intro ht16
 ·
  -- then
  refine CW.sr fun K17 hK17 => ?_
  refine WL.m rfl ?_
  refine WL.m rfl ?_
  refine WL.v (Y.len_slice Tryd.underlying22 rfl) ?_
  refine WL.v (Y.eql rfl rfl) ?_
  refine WL.m rfl ?_
  (first | refine WL.casesD (d := 71) rfl ?_ ?_ | refine WL.casesND (d := 71) rfl ?_ ?_ | refine WL.cases (d := 71) rfl ?_ ?_) <;> intro hg71
  ·
   -- t71 = T
   refine WL.o rfl rfl ?_
   refine WL.o rfl rfl ?_
   refine WL.v (Y.pick rfl rfl) ?_
   refine WL.m rfl ?_
   refine WL.gcall rfl rfl Tryd.func7 rfl rfl rfl (ealive_any _) de_ ?_; rintro v w17 ⟨rfl, hx17⟩; have hz17 := hx17.size; have hE := hE.thenExt hx17; have hB5 := hB5.ext hx17; have hB8 := hB8.ext hx17; have hB10 := hB10.ext hx17
   refine WL.v (Y.pick rfl rfl) ?_
   refine WL.a rfl ?_
   refine WL.nil (hK17 _ _ ?_); try clear hK17
   refine CW.ret ⟨_, rfl, ?_⟩
   exact ⟨rfl, hE0.thenExt hE⟩
  ·
   -- t71 = F
   refine WL.g rfl rfl (Y.move rfl) ?_
   refine WL.g rfl rfl (Y.eql rfl rfl) ?_
   refine WL.v (Y.pick rfl rfl) ?_
   refine WL.m rfl ?_
   (first | refine WL.casesD (d := 75) rfl ?_ ?_ | refine WL.casesND (d := 75) rfl ?_ ?_ | refine WL.cases (d := 75) rfl ?_ ?_) <;> intro hg75
   ·
    -- t75 = T
    refine WL.gcall rfl rfl Tryd.func7 rfl rfl rfl (ealive_any _) de_ ?_; rintro v w18 ⟨rfl, hx18⟩; have hz18 := hx18.size; have hE := hE.thenExt hx18; have hB5 := hB5.ext hx18; have hB8 := hB8.ext hx18; have hB10 := hB10.ext hx18
    refine WL.v (Y.pick rfl rfl) ?_
    refine WL.a rfl ?_
    refine WL.nil (hK17 _ _ ?_); try clear hK17
    refine CW.ret ⟨_, rfl, ?_⟩
    exact ⟨rfl, hE0.thenExt hE⟩
   ·
    -- t75 = F
    refine WL.o rfl rfl ?_
    refine WL.v (Y.pick rfl rfl) ?_
    refine WL.a rfl ?_
    refine WL.nil (hK17 _ _ ?_); try clear hK17
    refine CW.ret ⟨_, rfl, ?_⟩
    exfalso
    rcases hsn with h | h | h
    ·
     rcases (by assumption : (rdH (csL l ++ [cc])).2 = 6 ∨ (rdH (csL l ++ [cc])).2 = 4) with h2 | h2 <;> omega
    ·
     simp_all
    ·
     simp_all
 refine CW.skip ?_
 refine hK15 _ _ ?_; try clear hK15
 refine CW.seq fun K18 hK18 => ?_
 have hr0 : (rdH (csL l ++ [cc])).2 = 0 := by
  have hno_ : ¬ ((rdH (csL l ++ [cc])).2 = 6 ∨ (rdH (csL l ++ [cc])).2 = 4) := by assumption
  rcases hsn with h | h | h
  ·
   exact h
  ·
   exact absurd (.inl (by rw [h])) hno_
  ·
   exact absurd (.inr (by rw [h])) hno_
 have hgr := ec_grow hok (by rw [← hcC]; exact hr0)
 rw [← hcC] at hgr
 obtain ⟨t1_, t2_, t3_, t4_⟩ := hgr
 refine CW.region ?_
 refine WL.m rfl ?_
 refine WL.v (Y.load Tryd.underlying36 rfl hB10.mem (sz_apiDigest _) rfl) ?_
 refine WL.st (St.buildSlice rfl (bs1_dig (idD cc))) de_ fun v81 w19 hR19 => ?_
 obtain ⟨g81, rfl, hg81, hB81, hx19⟩ := hR19
 have hz19 := hx19.size
 have hE := hE.thenExt hx19
 have hB5 := hB5.ext hx19
 have hB8 := hB8.ext hx19
 have hB10 := hB10.ext hx19
 have hD81 : Sl w19 digC 32 (.slice (some ⟨g81, 0, none⟩) 1 1) [idD cc] := Blk.sl9 (l := [idD cc]) (by simpa using hB81) digC_length rfl de_ de_
 refine WL.call Tryd.func11 rfl rfl rfl (by have h9 := htext_any _ _ (l ++ [y]) [idD cc] _ (hA.ext hE) hD81 (hK.ext hE); rw [hcsA] at h9; exact h9) (by simp) ?_; rintro v w20 ⟨rfl, hx20⟩; have hz20 := hx20.size; have hE := hE.thenExt hx20; have hB5 := hB5.ext hx20; have hB8 := hB8.ext hx20; have hB10 := hB10.ext hx20
 refine WL.m rfl ?_
 refine WL.v (Y.extract rfl rfl) ?_
 refine WL.v (Y.extract rfl rfl) ?_
 refine WL.a rfl ?_
 refine WL.a rfl ?_
 refine WL.nil (hK18 _ _ ?_); try clear hK18
 have hE0 := hE0.thenExt hE
 have hK := hK.ext hE
 have hSx := hSx.ext hE
 have hA := hA.ext hE
 clear hE
 have hE : Ext w20 w20 := Chg.refl
 refine CW.seq_to (X := Option Addr × Nat × Nat) (fun x => [(5, .pointer (some ⟨g5, 0, none⟩)), (10, .pointer (some ⟨g10, 0, none⟩)), (14, .int .i64 (rdH (csL l ++ [cc])).2), (15, .string (bs (txL (csL l ++ [cc]) [idD cc]))), (16, .int .i64 (txE (csL l ++ [cc]) [idD cc])), (17, .slice x.1 x.2.1 x.2.2), (18, .int .i64 (mgE (csL l ++ [cc]) (ix ++ [idD cc]) []))]) (fun x w0 => Sl w0 digC 32 (.slice x.1 x.2.1 x.2.2) (mgL (csL l ++ [cc]) (ix ++ [idD cc]) []) ∧ Ext w20 w0) ?_ ?_
 ·
  skip
  refine CW.held (fun wq => Ext w20 wq) kr_ 13 rfl fun w21 hS => ?_
  refine RH.tk 0 hS rfl (fun wq hq => Y.move rfl) ?_
  refine RH.tk 2 hS rfl (fun wq hq => Y.move rfl) ?_
  refine RH.tk 4 hS rfl (fun wq hq => Y.load Tryd.underlying36 rfl (hB10.ext hq).mem (sz_apiDigest _) rfl) ?_
  refine RH.two 1 5 kr_ ?_ ?_
  ·
   skip
   refine RS.st rfl (St.buildSlice0 Tryd.underlying25 sz0_apiDigest) de_ fun v87 w22 hR22 => ?_
   have hzs_ := hS.size
   obtain ⟨g87, rfl, hg87, hO87, hx22⟩ := hR22
   have hz22 := hx22.size
   have hS := hS.thenExt hx22
   have hlt87 : g87 < w22.heap.size := hO87.lt g87 rfl
   refine ⟨hS, ?_⟩
   refine RH.two 3 5 kr_ ?_ ?_
   ·
    skip
    refine RS.st rfl (St.append (news := flatD ix) Tryd.underlying25 Tryd.underlying25 ai_dig rfl rfl hO87 (Sl.src digC_length (hSx.ext hS)) (one_fdH _) (by simp only [List.length_nil]; omega)) de_ fun v89 w23 hR23 => ?_
    obtain ⟨hO89, hc23, hf89⟩ := hR23
    have hz23 := hc23.size
    rw [List.nil_append] at hO89
    have hS := hS.step hc23 (fun k h => by simp [Value.ownBlock] at h; omega)
    have hf89 : ∀ k, v89.ownBlock = some k → w20.heap.size ≤ k := fun k hk => by
     rcases hf89 with h | h
     ·
      rw [h] at hk; simp [Value.ownBlock] at hk; omega
     ·
      have := h k hk; omega
    refine ⟨hS, ?_⟩
    refine RH.one 5 kr_ ?_
    refine RS.st rfl (St.buildSlice rfl (bs1_dig (idD cc))) de_ fun v91 w24 hR24 => ?_
    have hzs2_ := hS.size
    obtain ⟨g91, rfl, hg91, hB91, hx24⟩ := hR24
    have hz24 := hx24.size
    have hS := hS.thenExt hx24
    have hlt91 := hB91.lt
    have hO89 := hO89.ext hx24
    refine ⟨hS, ?_⟩
    refine RH.one 6 kr_ ?_
    refine RS.st rfl (St.append (m := 1) Tryd.underlying25 Tryd.underlying25 ai_dig rfl rfl hO89 (Fw.Src.one hB91 (digC_length _)) one_digC (by rw [flat_length digC_length]; omega)) de_ fun v92 w25 hR25 => ?_
    obtain ⟨hO92, hc25, hf92⟩ := hR25
    have hz25 := hc25.size
    have hS := hS.step hc25 (fun k h => hf89 k h)
    have hS92 : Sl w25 digC 32 v92 (ix ++ [idD cc]) := Own.sl (xs := ix ++ [idD cc]) (by rw [List.map_append, List.flatten_append]; simpa using hO92) digC_length de_
    refine ⟨hS, ?_⟩
    refine RH.one 7 kr_ ?_
    refine RS.call rfl (fun _ _ h => by cases h) Tryd.func12 rfl rfl rfl (hmerge_any _ _ _ (l ++ [y]) (ix ++ [idD cc]) [] _ (hA.ext hS) hS92 Sl.nil (by simp; omega) (hK.ext hS)) de_ fun v93 w26 hR26 => ?_
    obtain ⟨hv93, rfl, hO93, hfu93, hx26⟩ := hR26
    have hz26 := hx26.size
    have hS := hS.thenExt hx26
    rw [hcsA] at hO93 ⊢
    have hM := hO93.sl digC_length de_
    obtain ⟨A93, n93, c93, rfl⟩ := hO93.lens
    refine ⟨hS, ?_⟩
    refine RH.tk 8 hS rfl (fun wq hq => Y.move rfl) ?_
    refine RH.tk 9 hS rfl (fun wq hq => Y.extract rfl rfl) ?_
    refine RH.tk 10 hS rfl (fun wq hq => Y.extract rfl rfl) ?_
    refine RH.tk 11 hS rfl (fun wq hq => Y.assign rfl) ?_
    refine RH.tk 12 hS rfl (fun wq hq => Y.assign rfl) ?_
    refine RH.done kr_ ?_
    have hx27 := hS; have hz27 := hx27.size; have hE := hE.thenExt hx27; have hB5 := hB5.ext hx27; have hB8 := hB8.ext hx27; have hB10 := hB10.ext hx27
    exact ⟨(A93, n93, c93), Fr.ok, hM, hS⟩
   ·
    skip
    refine RS.st rfl (St.buildSlice rfl (bs1_dig (idD cc))) de_ fun v91 w28 hR28 => ?_
    have hzs2_ := hS.size
    obtain ⟨g91, rfl, hg91, hB91, hx28⟩ := hR28
    have hz28 := hx28.size
    have hS := hS.thenExt hx28
    have hlt91 := hB91.lt
    have hO87 := hO87.ext hx28
    refine ⟨hS, ?_⟩
    refine RH.one 3 kr_ ?_
    refine RS.st rfl (St.append (news := flatD ix) Tryd.underlying25 Tryd.underlying25 ai_dig rfl rfl hO87 (Sl.src digC_length (hSx.ext hS)) (one_fdH _) (by simp only [List.length_nil]; omega)) de_ fun v89 w29 hR29 => ?_
    obtain ⟨hO89, hc29, hf89⟩ := hR29
    have hz29 := hc29.size
    rw [List.nil_append] at hO89
    have hS := hS.step hc29 (fun k h => by simp [Value.ownBlock] at h; omega)
    have hf89 : ∀ k, v89.ownBlock = some k → w20.heap.size ≤ k := fun k hk => by
     rcases hf89 with h | h
     ·
      rw [h] at hk; simp [Value.ownBlock] at hk; omega
     ·
      have := h k hk; omega
    have hB91 := hB91.chg hc29 (fun h => by simp [Value.ownBlock] at h; omega)
    refine ⟨hS, ?_⟩
    refine RH.one 6 kr_ ?_
    refine RS.st rfl (St.append (m := 1) Tryd.underlying25 Tryd.underlying25 ai_dig rfl rfl hO89 (Fw.Src.one hB91 (digC_length _)) one_digC (by rw [flat_length digC_length]; omega)) de_ fun v92 w30 hR30 => ?_
    obtain ⟨hO92, hc30, hf92⟩ := hR30
    have hz30 := hc30.size
    have hS := hS.step hc30 (fun k h => hf89 k h)
    have hS92 : Sl w30 digC 32 v92 (ix ++ [idD cc]) := Own.sl (xs := ix ++ [idD cc]) (by rw [List.map_append, List.flatten_append]; simpa using hO92) digC_length de_
    refine ⟨hS, ?_⟩
    refine RH.one 7 kr_ ?_
    refine RS.call rfl (fun _ _ h => by cases h) Tryd.func12 rfl rfl rfl (hmerge_any _ _ _ (l ++ [y]) (ix ++ [idD cc]) [] _ (hA.ext hS) hS92 Sl.nil (by simp; omega) (hK.ext hS)) de_ fun v93 w31 hR31 => ?_
    obtain ⟨hv93, rfl, hO93, hfu93, hx31⟩ := hR31
    have hz31 := hx31.size
    have hS := hS.thenExt hx31
    rw [hcsA] at hO93 ⊢
    have hM := hO93.sl digC_length de_
    obtain ⟨A93, n93, c93, rfl⟩ := hO93.lens
    refine ⟨hS, ?_⟩
    refine RH.tk 8 hS rfl (fun wq hq => Y.move rfl) ?_
    refine RH.tk 9 hS rfl (fun wq hq => Y.extract rfl rfl) ?_
    refine RH.tk 10 hS rfl (fun wq hq => Y.extract rfl rfl) ?_
    refine RH.tk 11 hS rfl (fun wq hq => Y.assign rfl) ?_
    refine RH.tk 12 hS rfl (fun wq hq => Y.assign rfl) ?_
    refine RH.done kr_ ?_
    have hx32 := hS; have hz32 := hx32.size; have hE := hE.thenExt hx32; have hB5 := hB5.ext hx32; have hB8 := hB8.ext hx32; have hB10 := hB10.ext hx32
    exact ⟨(A93, n93, c93), Fr.ok, hM, hS⟩
  ·
   skip
   refine RS.st rfl (St.buildSlice rfl (bs1_dig (idD cc))) de_ fun v91 w33 hR33 => ?_
   have hzs2_ := hS.size
   obtain ⟨g91, rfl, hg91, hB91, hx33⟩ := hR33
   have hz33 := hx33.size
   have hS := hS.thenExt hx33
   have hlt91 := hB91.lt
   refine ⟨hS, ?_⟩
   refine RH.one 1 kr_ ?_
   refine RS.st rfl (St.buildSlice0 Tryd.underlying25 sz0_apiDigest) de_ fun v87 w34 hR34 => ?_
   have hzs_ := hS.size
   obtain ⟨g87, rfl, hg87, hO87, hx34⟩ := hR34
   have hz34 := hx34.size
   have hS := hS.thenExt hx34
   have hlt87 : g87 < w34.heap.size := hO87.lt g87 rfl
   have hB91 := hB91.ext hx34
   refine ⟨hS, ?_⟩
   refine RH.one 3 kr_ ?_
   refine RS.st rfl (St.append (news := flatD ix) Tryd.underlying25 Tryd.underlying25 ai_dig rfl rfl hO87 (Sl.src digC_length (hSx.ext hS)) (one_fdH _) (by simp only [List.length_nil]; omega)) de_ fun v89 w35 hR35 => ?_
   obtain ⟨hO89, hc35, hf89⟩ := hR35
   have hz35 := hc35.size
   rw [List.nil_append] at hO89
   have hS := hS.step hc35 (fun k h => by simp [Value.ownBlock] at h; omega)
   have hf89 : ∀ k, v89.ownBlock = some k → w20.heap.size ≤ k := fun k hk => by
    rcases hf89 with h | h
    ·
     rw [h] at hk; simp [Value.ownBlock] at hk; omega
    ·
     have := h k hk; omega
   have hB91 := hB91.chg hc35 (fun h => by simp [Value.ownBlock] at h; omega)
   refine ⟨hS, ?_⟩
   refine RH.one 6 kr_ ?_
   refine RS.st rfl (St.append (m := 1) Tryd.underlying25 Tryd.underlying25 ai_dig rfl rfl hO89 (Fw.Src.one hB91 (digC_length _)) one_digC (by rw [flat_length digC_length]; omega)) de_ fun v92 w36 hR36 => ?_
   obtain ⟨hO92, hc36, hf92⟩ := hR36
   have hz36 := hc36.size
   have hS := hS.step hc36 (fun k h => hf89 k h)
   have hS92 : Sl w36 digC 32 v92 (ix ++ [idD cc]) := Own.sl (xs := ix ++ [idD cc]) (by rw [List.map_append, List.flatten_append]; simpa using hO92) digC_length de_
   refine ⟨hS, ?_⟩
   refine RH.one 7 kr_ ?_
   refine RS.call rfl (fun _ _ h => by cases h) Tryd.func12 rfl rfl rfl (hmerge_any _ _ _ (l ++ [y]) (ix ++ [idD cc]) [] _ (hA.ext hS) hS92 Sl.nil (by simp; omega) (hK.ext hS)) de_ fun v93 w37 hR37 => ?_
   obtain ⟨hv93, rfl, hO93, hfu93, hx37⟩ := hR37
   have hz37 := hx37.size
   have hS := hS.thenExt hx37
   rw [hcsA] at hO93 ⊢
   have hM := hO93.sl digC_length de_
   obtain ⟨A93, n93, c93, rfl⟩ := hO93.lens
   refine ⟨hS, ?_⟩
   refine RH.tk 8 hS rfl (fun wq hq => Y.move rfl) ?_
   refine RH.tk 9 hS rfl (fun wq hq => Y.extract rfl rfl) ?_
   refine RH.tk 10 hS rfl (fun wq hq => Y.extract rfl rfl) ?_
   refine RH.tk 11 hS rfl (fun wq hq => Y.assign rfl) ?_
   refine RH.tk 12 hS rfl (fun wq hq => Y.assign rfl) ?_
   refine RH.done kr_ ?_
   have hx38 := hS; have hz38 := hx38.size; have hE := hE.thenExt hx38; have hB5 := hB5.ext hx38; have hB8 := hB8.ext hx38; have hB10 := hB10.ext hx38
   exact ⟨(A93, n93, c93), Fr.ok, hM, hS⟩
 rintro u w39 hj39
 obtain ⟨A93, n93, c93⟩ := u
 dsimp only at hj39 ⊢
 obtain ⟨hM, hx39⟩ := hj39
 have hz39 := hx39.size
 have hE := hE.thenExt hx39
 have hB5 := hB5.ext hx39
 have hB8 := hB8.ext hx39
 have hB10 := hB10.ext hx39
 rw [t4_] at hM
 refine CW.sr fun K19 hK19 => ?_
 refine WL.m rfl ?_
 refine WL.v (Y.eql rfl rfl) ?_
 refine WL.m rfl ?_
 refine WL.know (d := 98) (u := .bool true) rfl (by rw [hr0]; rfl) ?_
 refine WL.g rfl rfl (Y.move rfl) ?_
 refine WL.g rfl rfl (Y.eql rfl rfl) ?_
 refine WL.g rfl rfl (Y.move rfl) ?_
 refine WL.know (d := 101) (u := .bool true) rfl (by rw [t1_]; rfl) ?_
 refine WL.g rfl rfl (Y.move rfl) ?_
 refine WL.g rfl rfl (Y.indexAddrAN (i := 2) Tryd.underlying24 rfl rfl sz0_string de_) ?_
 refine WL.g rfl rfl (Y.load1 Tryd.underlying9 rfl (hB5.mem.cell 2 rfl) rfl) ?_
 refine WL.g rfl rfl (Y.eql_string rfl rfl) ?_
 refine WL.g rfl rfl (Y.pick rfl rfl) ?_
 refine WL.g rfl rfl (Y.move rfl) ?_
 refine WL.know (d := 107) (u := .bool true) rfl (by rw [t2_]; simp) ?_
 refine WL.o rfl rfl ?_
 refine WL.o rfl rfl ?_
 refine WL.g rfl rfl (Y.pick rfl rfl) ?_
 refine WL.v (Y.pick rfl rfl) ?_
 refine WL.m rfl ?_
 refine WL.g rfl rfl (Y.move rfl) ?_
 refine WL.g rfl rfl (Y.eql rfl rfl) ?_
 refine WL.v (Y.pick rfl rfl) ?_
 refine WL.m rfl ?_
 refine WL.know (d := 116) (u := .bool true) rfl (by rw [t3_]; rfl) ?_
 refine WL.g rfl rfl (Y.move rfl) ?_
 refine WL.g rfl rfl (Y.load Tryd.underlying36 rfl hB10.mem (sz_apiDigest _) rfl) ?_
 refine WL.gst rfl rfl (St.buildSlice rfl (bs1_dig (idD cc))) de_ fun v119 w40 hR40 => ?_
 obtain ⟨g119, rfl, hg119, hB119, hx40⟩ := hR40
 have hz40 := hx40.size
 have hE := hE.thenExt hx40
 have hB5 := hB5.ext hx40
 have hB8 := hB8.ext hx40
 have hB10 := hB10.ext hx40
 have hD119 : Sl w40 digC 32 (.slice (some ⟨g119, 0, none⟩) 1 1) [idD cc] := Blk.sl9 (l := [idD cc]) (by simpa using hB119) digC_length rfl de_ de_
 refine WL.gcall rfl rfl Tryd.func13 rfl rfl rfl (rSameD_any _ _ [idD cc] [idD cc] _ (hM.ext hx40) hD119) de_ ?_; rintro v w41 ⟨rfl, hx41⟩; have hz41 := hx41.size; have hE := hE.thenExt hx41; have hB5 := hB5.ext hx41; have hB8 := hB8.ext hx41; have hB10 := hB10.ext hx41
 refine WL.v (Y.pick rfl rfl) ?_
 refine WL.m rfl ?_
 refine WL.know (d := 122) (u := .bool true) rfl (by simp) ?_
 refine WL.gcall rfl rfl Tryd.func7 rfl rfl rfl (ealive_any _) de_ ?_; rintro v w42 ⟨rfl, hx42⟩; have hz42 := hx42.size; have hE := hE.thenExt hx42; have hB5 := hB5.ext hx42; have hB8 := hB8.ext hx42; have hB10 := hB10.ext hx42
 refine WL.v (Y.pick rfl rfl) ?_
 refine WL.a rfl ?_
 refine WL.nil (hK19 _ _ ?_); try clear hK19
 refine CW.ret ⟨_, rfl, ?_⟩
 exact ⟨rfl, hE0.thenExt hE⟩
end Go.Proofs.YtmehkigmnpjcjaaDoor
