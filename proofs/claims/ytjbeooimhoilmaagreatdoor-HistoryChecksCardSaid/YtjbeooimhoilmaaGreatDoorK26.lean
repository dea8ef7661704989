/- Parts of a proof: what its last text leans on. No condition. -/
import Derived.Test.YtjbeooimhoilmaaGreatDoorK24
import Derived.Test.YtjbeooimhoilmaaGreatDoorK25
set_option linter.unusedSimpArgs false
set_option linter.unusedVariables false
/- HistoryMerges, HistoryTexts, HistoryChecks, walked. No condition but bounds and the table of digest.keys. -/
namespace Go.Proofs.YtjbeooimhoilmaaGreatDoor
open Go.RowKit Go.Fw Go.Pl Go.Sort Go.Fu
theorem chk_len {l : List ComD} {ys : List NdV} (h : ndsL ys = if (rdH l).2 = 0 then ndsH l else []) : ((rdH l).2 ≠ 0 → ys.length = 0) ∧ (¬ (rdH l).2 ≠ 0 → ys.length = l.length) := by
 have h9 := congrArg List.length h
 constructor
 ·
  intro h0
  rw [if_neg h0] at h9
  simpa using h9
 ·
  intro h0
  rw [if_pos (Decidable.not_not.1 h0)] at h9
  simpa using h9
theorem chk_t {l : List ComD} {n : Nat} (h : (rdH l).2 ≠ 0 → n = 0) (h0 : (rdH l).2 ≠ 0) : decide ((n : Int) > 0) = true ↔ False := by
 rw [h h0]; simp
set_option maxRecDepth 100000 in
set_option maxHeartbeats 4000000 in
theorem hchecks_any (u : Value) (l : List CoV) (w : World) (hl : Hcs w u l) (hsm : ∀ x ∈ l, CoSm x) (hn : l.length * 80 ≤ 140737488351232) (hK : Mem w ⟨0, 0, none⟩ (wds keysL)) : Calls Tryz.prog 4 #[u] w (Ret fun v w' => v = .bool true ∧ Ext w w') := by
 have hE0 : Ext w w := Chg.refl
 obtain ⟨A2, m2, c2, rfl, hlm, hmc, hcm, hlg⟩ := id hl.sl
 unfold maxLen at hcm
 have hcl : (csL l).length = m2 := by rw [List.length_map]; exact hlm
 refine calls_of_CW 116 [2] [(0, .slice A2 m2 c2)] Tryz.func4 rfl rfl rfl (by simp) args1 ?_
 have hE : Ext w w := Chg.refl
 refine CW.sr fun K1 hK1 => ?_
 refine WL.a rfl ?_
 refine WL.nil (hK1 _ _ ?_); try clear hK1 K1
 refine CW.sr fun K2 hK2 => ?_
 refine WL.m rfl ?_
 refine WL.call Tryz.func11 rfl rfl rfl (hown_any _ l _ (hl.ext hE) hsm hn) (by simp) ?_; rintro v13 w1 hR1
 obtain ⟨xl, hxc, hxa, hO, hfu, hx1⟩ := hR1
 have hz1 := hx1.size
 have hE := hE.thenExt hx1
 have hE0 := hE0.thenExt hE
 have hl := hl.ext hE
 have hK := hK.ext hE
 clear hE
 have hE : Ext w1 w1 := Chg.refl
 have hX : Hcs w1 v13 xl := ⟨hO.sl coC_length (by decide), fun x hx => (hxa x hx).1.co⟩
 obtain ⟨A5, m5, c5, rfl⟩ := hO.lens
 refine WL.a rfl ?_
 refine WL.nil (hK2 _ _ ?_); try clear hK2 K2
 refine CW.sr fun K3 hK3 => ?_
 refine WL.m rfl ?_
 refine WL.call Tryz.func12 rfl rfl rfl (by have h9 := hcheck_any _ xl _ (hX.ext hE) (hK.ext hE); rw [hxc] at h9; exact h9) (by simp) ?_; rintro v w2 ⟨rfl, hx2⟩; have hz2 := hx2.size; have hE := hE.thenExt hx2
 refine WL.m rfl ?_
 refine WL.v (Y.extract rfl rfl) ?_
 refine WL.v (Y.extract rfl rfl) ?_
 refine WL.a rfl ?_
 refine WL.a rfl ?_
 refine WL.nil (hK3 _ _ ?_); try clear hK3 K3
 refine CW.sr fun K4 hK4 => ?_
 refine WL.m rfl ?_
 refine WL.call Tryz.func13 rfl rfl rfl (by have h9 := hnodes_any _ xl _ (hX.ext hE) (hK.ext hE); rw [hxc] at h9; exact h9) (by simp) ?_; rintro v21 w3 hR3
 obtain ⟨A, c, ys, rfl, hQ, hys, hx3⟩ := hR3
 have hz3 := hx3.size
 have hE := hE.thenExt hx3
 have hE0 := hE0.thenExt hE
 have hl := hl.ext hE
 have hK := hK.ext hE
 have hX := hX.ext hE
 clear hE
 have hE : Ext w3 w3 := Chg.refl
 have hN := hQ.nds
 obtain ⟨hy0, hy1⟩ := chk_len hys
 refine WL.m rfl ?_
 refine WL.v (Y.extract rfl rfl) ?_
 refine WL.v (Y.extract rfl rfl) ?_
 refine WL.a rfl ?_
 refine WL.a rfl ?_
 refine WL.nil (hK4 _ _ ?_); try clear hK4 K4
 refine CW.sr fun K5 hK5 => ?_
 refine WL.m rfl ?_
 refine WL.call Tryz.func14 rfl rfl rfl (rread9_any _ l _ (hl.ext hE)) (by simp) ?_; rintro v26 w4 hR4
 obtain ⟨A9, c9, zs, kk, rfl, hZ, hzs, hkk, hx4⟩ := hR4
 have hz4 := hx4.size
 have hE := hE.thenExt hx4
 have hE0 := hE0.thenExt hE
 have hl := hl.ext hE
 have hK := hK.ext hE
 have hX := hX.ext hE
 have hN := hN.ext hE
 clear hE
 have hE : Ext w4 w4 := Chg.refl
 refine WL.m rfl ?_
 refine WL.v (Y.extract rfl rfl) ?_
 refine WL.v (Y.extract rfl rfl) ?_
 refine WL.v (Y.extract rfl rfl) ?_
 refine WL.a rfl ?_
 refine WL.a rfl ?_
 refine WL.a rfl ?_
 refine WL.nil (hK5 _ _ ?_); try clear hK5 K5
 refine CW.seq fun K6 hK6 => ?_
 refine CW.seq_test 51 (False) ?_ ?_
 ·
  refine CW.region ?_
  refine WL.m rfl ?_
  refine WL.m rfl ?_
  refine WL.v (Y.neq rfl rfl) ?_
  refine WL.m rfl ?_
  refine WL.know (d := 33) (u := .bool false) rfl (by simp) ?_
  refine WL.g rfl rfl (Y.move rfl) ?_
  refine WL.g rfl rfl (Y.move rfl) ?_
  refine WL.g rfl rfl (Y.neq rfl rfl) ?_
  refine WL.v (Y.pick rfl rfl) ?_
  refine WL.m rfl ?_
  refine WL.know (d := 38) (u := .bool false) rfl (by simp) ?_
  refine WL.g rfl rfl (Y.move rfl) ?_
  refine WL.g rfl rfl (Y.move rfl) ?_
  refine WL.g rfl rfl (Y.neq rfl rfl) ?_
  refine WL.v (Y.pick rfl rfl) ?_
  refine WL.m rfl ?_
  refine WL.know (d := 43) (u := .bool false) rfl (by simp) ?_
  refine WL.g rfl rfl (Y.move rfl) ?_
  refine WL.g rfl rfl (Y.neq rfl rfl) ?_
  refine WL.g rfl rfl (Y.move rfl) ?_
  (first | refine WL.casesD (d := 46) rfl ?_ ?_ | refine WL.casesND (d := 46) rfl ?_ ?_ | refine WL.cases (d := 46) rfl ?_ ?_) <;> intro hg46
  ·
   -- t46 = T
   refine WL.g rfl rfl (Y.move rfl) ?_
   refine WL.g rfl rfl (Y.len_slice Tryz.underlying37 rfl) ?_
   refine WL.g rfl rfl (Y.gtr rfl rfl) ?_
   refine WL.g rfl rfl (Y.pick rfl rfl) ?_
   refine WL.v (Y.pick rfl rfl) ?_
   refine WL.nil ⟨⟨_, rfl, ?_⟩, rfl, Fr.okp⟩
   first | exact chk_t hy0 hg46 | first | (simp only [*, Int.natCast_inj, Bool.not_eq_true', decide_eq_false_iff_not, decide_eq_true_eq, not_true_eq_false, not_false_eq_true, true_and, false_and, and_true, and_false, false_or, or_false, true_or, or_true, iff_true, true_iff, iff_false, false_iff]; done) | (simp_all; done) | (refine congrArg Value.bool (Bool.eq_iff_iff.2 ?_); simp_all; done) | (simp_all; omega)
  ·
   -- t46 = F
   refine WL.o rfl rfl ?_
   refine WL.o rfl rfl ?_
   refine WL.o rfl rfl ?_
   refine WL.g rfl rfl (Y.pick rfl rfl) ?_
   refine WL.v (Y.pick rfl rfl) ?_
   refine WL.nil ⟨⟨_, rfl, ?_⟩, rfl, Fr.okp⟩
   first | exact chk_t hy0 hg46 | first | (simp only [*, Int.natCast_inj, Bool.not_eq_true', decide_eq_false_iff_not, decide_eq_true_eq, not_true_eq_false, not_false_eq_true, true_and, false_and, and_true, and_false, false_or, or_false, true_or, or_true, iff_true, true_iff, iff_false, false_iff]; done) | (simp_all; done) | (refine congrArg Value.bool (Bool.eq_iff_iff.2 ?_); simp_all; done) | (simp_all; omega)
 (first | refine CW.condD rfl ?_ ?_ | refine CW.condND rfl ?_ ?_ | refine CW.condN rfl ?_ ?_ | refine CW.cond rfl ?_ ?_) <;> intro ht7
 ·
  -- then
  refine CW.sr fun K8 hK8 => ?_
  refine WL.a rfl ?_
  refine WL.nil (hK8 _ _ ?_); try clear hK8 K8
  refine CW.ret ⟨_, rfl, ?_⟩
  exact (by assumption : False).elim
 refine CW.skip ?_
 refine hK6 _ _ ?_; try clear hK6 K6
 refine CW.seq fun K9 hK9 => ?_
 refine CW.sr fun K10 hK10 => ?_
 refine WL.a rfl ?_
 refine WL.nil (hK10 _ _ ?_); try clear hK10 K10
 refine CW.block ?_
 refine CW.loop (X := Nat) (fun x => [(0, .slice A2 m2 c2), (3, .slice A5 m5 c5), (6, .slice A ys.length c), (8, .slice A9 zs.length c9), (10, .int .i64 (rdH (csL l)).2), (11, .int .i64 (x : Int))]) (fun x w0 => x ≤ ys.length ∧ Ext w4 w0) (fun x => ys.length - x) 0 Fr.ok ⟨Nat.zero_le _, hE⟩ ?_
 intro x w5 hl5
 clear hE
 obtain ⟨hxm, hE⟩ := hl5
 have hzE := hE.size
 refine CW.seq fun K11 hK11 => ?_
 refine CW.sr fun K12 hK12 => ?_
 refine WL.m rfl ?_
 refine WL.m rfl ?_
 refine WL.v (Y.len_slice Tryz.underlying37 rfl) ?_
 refine WL.v (Y.lss rfl rfl) ?_
 refine WL.nil (hK12 _ _ ?_); try clear hK12 K12
 (first | refine CW.condD rfl ?_ ?_ | refine CW.condND rfl ?_ ?_ | refine CW.condN rfl ?_ ?_ | refine CW.cond rfl ?_ ?_) <;> intro ht13
 ·
  -- then
  refine CW.skip ?_
  refine hK11 _ _ ?_; try clear hK11 K11
  refine CW.seq fun K14 hK14 => ?_
  refine CW.block ?_
  have h0 : (rdH (csL l)).2 = 0 := Decidable.not_not.1 fun h => by have := hy0 h; omega
  have hys0 : ndsL ys = ndsH (csL l) := by rw [hys, if_pos h0]
  have hzs0 : ndsL zs = ndsH (csL l) := by rw [hzs, hkk h0, List.take_of_length_le (by omega)]
  have hzy : zs.length = ys.length := by have := congrArg List.length (hzs0.trans hys0.symm); simpa using this
  have hym : ys.length = m2 := by rw [← hcl]; exact hy1 (fun h => h h0)
  have hm5 : xl.length = m5 := by obtain ⟨_, _, _, e_, h_, _⟩ := id hX.sl; cases e_; exact h_
  have hxlm : xl.length = m2 := by have := congrArg List.length hxc; rw [List.length_map] at this; omega
  obtain ⟨cx, hcx⟩ : ∃ c, l[x]? = some c := ⟨_, List.getElem?_eq_getElem (by omega)⟩
  obtain ⟨cz, hcz⟩ : ∃ c, xl[x]? = some c := ⟨_, List.getElem?_eq_getElem (by omega)⟩
  have hcc : cz.c = cx.c := by
   have e1 := cs_at hcz
   rw [hxc, cs_at hcx] at e1
   injection e1 with e1
   exact e1.symm
  obtain ⟨y, hy⟩ : ∃ y, ys[x]? = some y := ⟨_, List.getElem?_eq_getElem (by omega)⟩
  obtain ⟨z, hz⟩ : ∃ y, zs[x]? = some y := ⟨_, List.getElem?_eq_getElem (by omega)⟩
  have hyn : y.n = ndH cx.c := by
   have e1 : (ndsL ys)[x]? = some y.n := by simp [hy]
   rw [hys0, nds_at (cs_at hcx)] at e1
   injection e1 with e1
   exact e1.symm
  have hzn : z.n = ndH cx.c := by
   have e1 : (ndsL zs)[x]? = some z.n := by simp [hz]
   rw [hzs0, nds_at (cs_at hcx)] at e1
   injection e1 with e1
   exact e1.symm
  obtain ⟨ay, rfl, hmy⟩ := hN.sl.at hy
  obtain ⟨az, rfl, hmz⟩ := hZ.sl.at hz
  obtain ⟨ax, rfl, hmx⟩ := hX.sl.at hcz
  obtain ⟨al, rfl, hml⟩ := hl.sl.at hcx
  have hpy := hN.ps y (List.mem_of_getElem? hy)
  have hpz := hZ.ps z (List.mem_of_getElem? hz)
  have hpx := (hX.all cz (List.mem_of_getElem? hcz)).ps
  have hpl := (hl.all cx (List.mem_of_getElem? hcx)).ps
  obtain ⟨yn, yA, yc⟩ := y
  obtain ⟨zn, zA, zc⟩ := z
  dsimp only at hyn hzn
  subst hyn hzn
  obtain ⟨cc, xA, xca, xB, xcb⟩ := cz
  dsimp only at hcc
  subst hcc
  obtain ⟨cc, lA, lca, lB, lcb⟩ := cx
  dsimp only [NdV.pv, CoV.pv, coC, ndH] at hpy hpz hpx hpl hmx hml hmy hmz ⊢
  refine CW.seq_testE 103 (False) ?_ ?_
  ·
   refine CW.quiet (fun wq => Ext w5 wq) (by kernel_rfl) (by kernel_rfl) Chg.drew ?_
   refine QL.m rfl ?_
   refine QL.v (fun wq hq => Y.len_slice Tryz.underlying37 rfl) ?_
   refine QL.m rfl ?_
   refine QL.v (fun wq hq => Y.len_slice Tryz.underlying37 rfl) ?_
   refine QL.v (fun wq hq => Y.neq rfl rfl) ?_
   refine QL.m rfl ?_
   refine QL.know (d := 63) (u := .bool false) rfl (by rw [hzy]; simp) ?_
   refine QL.g rfl rfl (fun wq hq => Y.move rfl) ?_
   refine QL.g rfl rfl (fun wq hq => Y.move rfl) ?_
   refine QL.g rfl rfl (fun wq hq => Y.indexAddrN Tryz.underlying37 rfl rfl sz0_apiNode (by omega)) ?_
   refine QL.g rfl rfl (fun wq hq => Y.fieldAddr fo_apiNode0 rfl) ?_
   refine QL.g rfl rfl (fun wq hq => Y.load Tryz.underlying43 rfl ((hmy.ext hE).ext hq).node0 (sz_apiDigest _) rfl) ?_
   refine QL.g rfl rfl (fun wq hq => Y.move rfl) ?_
   refine QL.g rfl rfl (fun wq hq => Y.move rfl) ?_
   refine QL.g rfl rfl (fun wq hq => Y.indexAddrN Tryz.underlying37 rfl rfl sz0_apiNode (by omega)) ?_
   refine QL.g rfl rfl (fun wq hq => Y.fieldAddr fo_apiNode0 rfl) ?_
   refine QL.g rfl rfl (fun wq hq => Y.load Tryz.underlying43 rfl ((hmz.ext hE).ext hq).node0 (sz_apiDigest _) rfl) ?_
   refine QL.g rfl rfl (fun wq hq => Y.neq_apiDigest rfl rfl) ?_
   refine QL.v (fun wq hq => Y.pick rfl rfl) ?_
   refine QL.m rfl ?_
   refine QL.know (d := 76) (u := .bool false) rfl (by simp) ?_
   refine QL.g rfl rfl (fun wq hq => Y.move rfl) ?_
   refine QL.g rfl rfl (fun wq hq => Y.move rfl) ?_
   refine QL.g rfl rfl (fun wq hq => Y.indexAddrN Tryz.underlying37 rfl rfl sz0_apiNode (by omega)) ?_
   refine QL.g rfl rfl (fun wq hq => Y.fieldAddr fo_apiNode1 rfl) ?_
   refine QL.g rfl rfl (fun wq hq => Y.load1 Tryz.underlying24 rfl (show wq.cell? _ = some (.slice yA cc.parents.length yc) from ((hmy.ext hE).ext hq).node1) rfl) ?_
   refine QL.g rfl rfl (fun wq hq => Y.move rfl) ?_
   refine QL.g rfl rfl (fun wq hq => Y.move rfl) ?_
   refine QL.g rfl rfl (fun wq hq => Y.indexAddrN Tryz.underlying37 rfl rfl sz0_apiNode (by omega)) ?_
   refine QL.g rfl rfl (fun wq hq => Y.fieldAddr fo_apiNode1 rfl) ?_
   refine QL.g rfl rfl (fun wq hq => Y.load1 Tryz.underlying24 rfl (show wq.cell? _ = some (.slice zA cc.parents.length zc) from ((hmz.ext hE).ext hq).node1) rfl) ?_
   refine QL.gcall rfl rfl Tryz.func9 rfl rfl rfl (fun wq hq => ret_ext (rSameD_any _ _ cc.parents cc.parents _ ((hpy.ext hE).ext hq) ((hpz.ext hE).ext hq)) hq) (by decide) ?_
   refine QL.g rfl rfl (fun wq hq => Y.not rfl) ?_
   refine QL.v (fun wq hq => Y.pick rfl rfl) ?_
   refine QL.m rfl ?_
   refine QL.know (d := 90) (u := .bool false) rfl (by simp) ?_
   refine QL.g rfl rfl (fun wq hq => Y.move rfl) ?_
   refine QL.g rfl rfl (fun wq hq => Y.move rfl) ?_
   refine QL.g rfl rfl (fun wq hq => Y.indexAddrN Tryz.underlying22 rfl rfl sz0_apiCommit (by omega)) ?_
   refine QL.g rfl rfl (fun wq hq => Y.fieldAddr fo_apiCommit0 rfl) ?_
   refine QL.g rfl rfl (fun wq hq => Y.load1 Tryz.underlying24 rfl (show wq.cell? _ = some (.slice xA cc.parents.length xca) from ((hmx.ext hE).ext hq).com0) rfl) ?_
   refine QL.g rfl rfl (fun wq hq => Y.move rfl) ?_
   refine QL.g rfl rfl (fun wq hq => Y.move rfl) ?_
   refine QL.g rfl rfl (fun wq hq => Y.indexAddrN Tryz.underlying22 rfl rfl sz0_apiCommit (by omega)) ?_
   refine QL.g rfl rfl (fun wq hq => Y.fieldAddr fo_apiCommit0 rfl) ?_
   refine QL.g rfl rfl (fun wq hq => Y.load1 Tryz.underlying24 rfl (show wq.cell? _ = some (.slice lA cc.parents.length lca) from ((hml.ext hE).ext hq).com0) rfl) ?_
   refine QL.gcall rfl rfl Tryz.func9 rfl rfl rfl (fun wq hq => ret_ext (rSameD_any _ _ cc.parents cc.parents _ ((hpx.ext hE).ext hq) ((hpl.ext hE).ext hq)) hq) (by decide) ?_
   refine QL.g rfl rfl (fun wq hq => Y.not rfl) ?_
   refine QL.v (fun wq hq => Y.pick rfl rfl) ?_
   refine QL.nil fun wq hq => ⟨⟨_, rfl, ?_⟩, hq, Fr.okp⟩
   first | exact chk_t hy0 hg46 | first | (simp only [*, Int.natCast_inj, Bool.not_eq_true', decide_eq_false_iff_not, decide_eq_true_eq, not_true_eq_false, not_false_eq_true, true_and, false_and, and_true, and_false, false_or, or_false, true_or, or_true, iff_true, true_iff, iff_false, false_iff]; done) | (simp_all; done) | (refine congrArg Value.bool (Bool.eq_iff_iff.2 ?_); simp_all; done) | (simp_all; omega)
  intro w6 hx6; have hz6 := hx6.size; have hE := hE.thenExt hx6
  (first | refine CW.condD rfl ?_ ?_ | refine CW.condND rfl ?_ ?_ | refine CW.condN rfl ?_ ?_ | refine CW.cond rfl ?_ ?_) <;> intro ht15
  ·
   -- then
   refine CW.sr fun K16 hK16 => ?_
   refine WL.a rfl ?_
   refine WL.nil (hK16 _ _ ?_); try clear hK16 K16
   refine CW.ret ⟨_, rfl, ?_⟩
   exact (by assumption : False).elim
  refine CW.skip ?_
  refine hK14 _ _ ?_; try clear hK14 K14
  refine CW.region ?_
  refine WL.m rfl ?_
  refine WL.v (Y.add rfl rfl ⟨by omega, by omega⟩) ?_
  refine WL.a rfl ?_
  refine WL.nil ?_
  exact ⟨x + 1, by show ys.length - (x + 1) < ys.length - x; omega, Fr.ok, by show x + 1 ≤ ys.length; omega, hE⟩
 refine CW.exit ?_
 refine hK9 _ _ ?_; try clear hK9 K9
 refine CW.sr fun K17 hK17 => ?_
 refine WL.m rfl ?_
 refine WL.v (Y.neq rfl rfl) ?_
 refine WL.m rfl ?_
 (first | refine WL.casesD (d := 106) rfl ?_ ?_ | refine WL.casesND (d := 106) rfl ?_ ?_ | refine WL.cases (d := 106) rfl ?_ ?_) <;> intro hg106
 ·
  -- t106 = T
  refine WL.o rfl rfl ?_
  refine WL.o rfl rfl ?_
  refine WL.o rfl rfl ?_
  refine WL.o rfl rfl ?_
  refine WL.o rfl rfl ?_
  refine WL.v (Y.pick rfl rfl) ?_
  refine WL.m rfl ?_
  refine WL.gcall rfl rfl Tryz.func10 rfl rfl rfl (halive_any _ (hK.ext hE)) (by decide) ?_; rintro v w7 ⟨rfl, hx7⟩; have hz7 := hx7.size; have hE := hE.thenExt hx7
  refine WL.v (Y.pick rfl rfl) ?_
  refine WL.a rfl ?_
  refine WL.nil (hK17 _ _ ?_); try clear hK17 K17
  refine CW.ret ⟨_, rfl, ?_⟩
  exact ⟨rfl, hE0.thenExt hE⟩
 ·
  -- t106 = F
  refine WL.g rfl rfl (Y.move rfl) ?_
  refine WL.g rfl rfl (Y.len_slice Tryz.underlying37 rfl) ?_
  refine WL.g rfl rfl (Y.move rfl) ?_
  refine WL.g rfl rfl (Y.len_slice Tryz.underlying22 rfl) ?_
  refine WL.g rfl rfl (Y.eql rfl rfl) ?_
  refine WL.v (Y.pick rfl rfl) ?_
  refine WL.m rfl ?_
  refine WL.know (d := 113) (u := .bool true) rfl (by rw [hy1 hg106, hcl]; simp) ?_
  refine WL.gcall rfl rfl Tryz.func10 rfl rfl rfl (halive_any _ (hK.ext hE)) (by decide) ?_; rintro v w8 ⟨rfl, hx8⟩; have hz8 := hx8.size; have hE := hE.thenExt hx8
  refine WL.v (Y.pick rfl rfl) ?_
  refine WL.a rfl ?_
  refine WL.nil (hK17 _ _ ?_); try clear hK17 K17
  refine CW.ret ⟨_, rfl, ?_⟩
  exact ⟨rfl, hE0.thenExt hE⟩
end Go.Proofs.YtjbeooimhoilmaaGreatDoor
