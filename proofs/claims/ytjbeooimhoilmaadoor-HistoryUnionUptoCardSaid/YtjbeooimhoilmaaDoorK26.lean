/- Parts of a proof: what its last text leans on. No condition. -/
import Derived.Test.YtjbeooimhoilmaaDoorK25
set_option linter.unusedSimpArgs false
set_option linter.unusedVariables false
/- HistoryUnion, walked. No condition but bounds and the table of digest.keys. -/
namespace Go.Proofs.YtjbeooimhoilmaaDoor
open Go.RowKit Go.Fw Go.Pl Go.Sort Go.Fu
theorem own_seen {w : World} {v : Value} {e : List El} (h : Own w 50 34 v (((seenE e).map fun q => refC (nm e q)).flatten)) : Sl w refC 34 v ((seenE e).map (nm e)) := by
  have h2 : Own w 50 34 v ((((seenE e).map (nm e)).map refC).flatten) := by rw [List.map_map]; exact h
  exact h2.sl refC_length (by decide)
theorem seen_few {L : Coms} {T : Tr} (h : TreeOk L T) : (seenE T.e).length ≤ 400000 := by
  have h1 := h.few
  have h2 := h.good.pos
  rw [h.good.seen_length]
  obtain ⟨x, r, hx⟩ : ∃ x r, T.e = x :: r := by
    cases hT : T.e with
    | nil => rw [hT] at h2; cases h2
    | cons x r => exact ⟨x, r, rfl⟩
  have hx0 : T.e[0]? = some x := by rw [hx]; rfl
  have hz : x.name = RefD.zero := (h.good.zero hx0).2 rfl
  have hg : x.gone = true := (h.built.gone x (List.mem_of_getElem? hx0)).2 (.inl hz)
  rw [hx, List.countP_cons, hg] 
  rw [hx, List.length_cons] at h1
  have h3 := List.countP_le_length (p := fun x : El => !x.gone) (l := r)
  simp
  omega
theorem flt_succ {l : List RefD} {p : RefD → Bool} {i : Nat} {r : RefD} (h : l[i]? = some r) : ((l.take (i + 1)).filter p).length = ((l.take i).filter p).length + if p r = true then 1 else 0 := by
  rw [take_succ h, List.filter_append, List.length_append]
  congr 1
  by_cases hp : p r = true <;> simp [hp]
set_option maxRecDepth 100000 in
set_option maxHeartbeats 8000000 in
theorem hunion_any (u s1 s2 : Value) (l : List CoV) (a b : List Int) (w : World) (hl : Hcs w u l) (h1 : Sl w i1C 1 s1 a) (h2 : Sl w i1C 1 s2 b) (hna : a.length ≤ 1048576) (hnb : b.length ≤ 1048576) (hK : Mem w ⟨0, 0, none⟩ (wds keysL)) : Calls Tryd.prog 5 #[u, s1, s2] w (Ret fun v w' => v = .bool true ∧ Ext w w') := by
  have hE0 : Ext w w := Chg.refl
  refine calls_of_CW 139 [6] [(0, u), (1, s1), (2, s2)] Tryd.func5 rfl rfl rfl (by simp) args3 ?_
  have hE : Ext w w := Chg.refl
  refine CW.seq fun K1 hK1 => ?_
  refine CW.region ?_
  refine WL.val (Y.assign rfl) (by decide) ?_
  refine WL.nil ?_
  refine hK1 _ _ ?_; try clear hK1 K1
  refine CW.seq fun K2 hK2 => ?_
  refine CW.seq fun K3 hK3 => ?_
  refine CW.region ?_
  refine WL.call Tryd.func10 rfl rfl rfl (halive_any _ (hK.ext hE)) (by simp) ?_; rintro v w1 ⟨rfl, hx1⟩; have hz1 := hx1.size; have hE := hE.thenExt hx1
  refine WL.val (Y.not rfl) (by decide) ?_
  refine WL.nil ?_
  refine hK3 _ _ ?_; try clear hK3 K3
  first | refine CW.condD rfl (fun ht4 => ?_) (fun ht4 => ?_) | refine CW.condND rfl (fun ht4 => ?_) (fun ht4 => ?_) | refine CW.condN rfl (fun ht4 => ?_) (fun ht4 => ?_) | refine CW.cond rfl (fun ht4 => ?_) (fun ht4 => ?_)
  · -- then
    refine CW.seq fun K5 hK5 => ?_
    refine CW.region ?_
    refine WL.val (Y.assign rfl) (by decide) ?_
    refine WL.nil ?_
    refine hK5 _ _ ?_; try clear hK5 K5
    refine CW.ret ⟨_, rfl, ?_⟩
    exact absurd (by assumption : true = false) (by decide)
  refine CW.skip ?_
  refine hK2 _ _ ?_; try clear hK2 K2
  refine CW.seq fun K6 hK6 => ?_
  refine CW.region ?_
  refine WL.val (Y.move rfl) (by decide) ?_
  refine WL.val (Y.move rfl) (by decide) ?_
  refine WL.call Tryd.func7 rfl rfl rfl (pick_any _ _ l a _ (hl.ext hE) (h1.ext hE) (by omega) (hK.ext hE)) (by simp) ?_; rintro v31 w2 hR2
  obtain ⟨hO2, hfu2, hx2⟩ := hR2
  have hz2 := hx2.size
  have hE := hE.thenExt hx2
  have hSx_ := hO2.sl digC_length (by decide)
  have hnx : (pickL (csL l) a).length = a.length := by rw [pickL, List.length_map]
  generalize pickL (csL l) a = ix at hSx_ hnx
  have hE0 := hE0.thenExt hE
  have hl := hl.ext hE
  have h2 := h2.ext hE
  have hK := hK.ext hE
  clear hE
  have hE : Ext w2 w2 := Chg.refl
  have hSx := hSx_
  refine WL.val (Y.move rfl) (by decide) ?_
  refine WL.val (Y.move rfl) (by decide) ?_
  refine WL.call Tryd.func7 rfl rfl rfl (pick_any _ _ l b _ (hl.ext hE) (h2.ext hE) (by omega) (hK.ext hE)) (by simp) ?_; rintro v34 w3 hR3
  obtain ⟨hO3, hfu3, hx3⟩ := hR3
  have hz3 := hx3.size
  have hE := hE.thenExt hx3
  have hSy_ := hO3.sl digC_length (by decide)
  have hny : (pickL (csL l) b).length = b.length := by rw [pickL, List.length_map]
  generalize pickL (csL l) b = iy at hSy_ hny
  have hE0 := hE0.thenExt hE
  have hl := hl.ext hE
  have hK := hK.ext hE
  have hSx := hSx.ext hE
  clear hE
  have hE : Ext w3 w3 := Chg.refl
  have hSy := hSy_
  refine WL.val (Y.assign rfl) (by decide) ?_
  refine WL.val (Y.assign rfl) (by decide) ?_
  refine WL.nil ?_
  refine hK6 _ _ ?_; try clear hK6 K6
  refine CW.seq fun K7 hK7 => ?_
  refine CW.region ?_
  refine WL.val (Y.move rfl) (by decide) ?_
  refine WL.val (Y.move rfl) (by decide) ?_
  refine WL.val (Y.move rfl) (by decide) ?_
  refine WL.call Tryd.func8 rfl rfl rfl (hmerge_any _ _ _ l ix iy _ (hl.ext hE) (hSx.ext hE) (hSy.ext hE) (by omega) (hK.ext hE)) (by simp) ?_; rintro v39 w4 hR4
  obtain ⟨hv4, rfl, hO4, hfu4, hx4⟩ := hR4
  have hz4 := hx4.size
  have hE := hE.thenExt hx4
  have hM4_ := hO4.sl digC_length (by decide)
  have hE0 := hE0.thenExt hE
  have hl := hl.ext hE
  have hK := hK.ext hE
  have hSx := hSx.ext hE
  have hSy := hSy.ext hE
  clear hE
  have hE : Ext w4 w4 := Chg.refl
  have hM4 := hM4_
  obtain ⟨A9, n9, c9, rfl, hn9, _⟩ := _root_.id hM4
  refine WL.val (Y.move rfl) (by decide) ?_
  refine WL.val (Y.extract rfl rfl) (by decide) ?_
  refine WL.val (Y.extract rfl rfl) (by decide) ?_
  refine WL.val (Y.assign rfl) (by decide) ?_
  refine WL.val (Y.assign rfl) (by decide) ?_
  refine WL.nil ?_
  refine hK7 _ _ ?_; try clear hK7 K7
  refine CW.seq fun K8 hK8 => ?_
  refine CW.seq fun K9 hK9 => ?_
  refine CW.region ?_
  refine WL.val (Y.move rfl) (by decide) ?_
  refine WL.val (Y.neq rfl rfl) (by decide) ?_
  refine WL.nil ?_
  refine hK9 _ _ ?_; try clear hK9 K9
  first | refine CW.condD rfl (fun ht10 => ?_) (fun ht10 => ?_) | refine CW.condND rfl (fun ht10 => ?_) (fun ht10 => ?_) | refine CW.condN rfl (fun ht10 => ?_) (fun ht10 => ?_) | refine CW.cond rfl (fun ht10 => ?_) (fun ht10 => ?_)
  · -- then
    refine CW.seq fun K11 hK11 => ?_
    refine CW.region ?_
    refine WL.val (Y.move rfl) (by decide) ?_
    refine WL.val (Y.len_slice Tryd.underlying25 rfl) (by decide) ?_
    refine WL.val (Y.eql rfl rfl) (by decide) ?_
    refine WL.val (Y.assign rfl) (by decide) ?_
    refine WL.nil ?_
    refine hK11 _ _ ?_; try clear hK11 K11
    refine CW.ret ⟨_, rfl, ?_⟩
    have h9 : (mgL (csL l) ix iy) = [] := by rw [mgL, if_neg (by assumption)]
    rw [h9] at hn9
    exact ⟨by rw [show n9 = 0 from hn9.symm]; rfl, hE0.thenExt hE⟩
  refine CW.skip ?_
  refine hK8 _ _ ?_; try clear hK8 K8
  refine CW.seq fun K12 hK12 => ?_
  have h0_ : mgE (csL l) ix iy = 0 := Decidable.not_not.1 (by assumption)
  obtain ⟨tx_, _⟩ := mgE_ok.1 h0_
  obtain ⟨ta_, tb_⟩ := ids_split tx_
  have tm_ := (mg_text h0_).2.1
  obtain ⟨hp_, hk_, _⟩ := txE_ok.1 ta_
  have htrs := trH_ok hk_ hp_ ix
  have htrt := trH_ok hk_ hp_ iy
  have htrm := trH_ok hk_ hp_ (mgL (csL l) ix iy)
  refine CW.region ?_
  refine WL.val (Y.move rfl) (by decide) ?_
  refine WL.val (Y.move rfl) (by decide) ?_
  refine WL.call Tryd.func14 rfl rfl rfl (htree_any _ _ l ix _ (hl.ext hE) (hSx.ext hE) (hK.ext hE)) (by simp) ?_; rintro v50 w5 hR5
  obtain ⟨p5, rfl, hbad5, hgood5, hx5⟩ := hR5
  have hz5 := hx5.size
  have hE := hE.thenExt hx5
  obtain ⟨gs, rbs, ras, nss, rfl, hTs_⟩ := hgood5 ta_
  rw [ta_]
  have hGs : Fu.Good (Fw.els nss) := by rw [hTs_.els]; exact htrs.good
  have hns_ : nss.length ≤ 400001 := by rw [← hTs_.len]; exact htrs.few
  have hfs_ : (seenE (Fw.els nss)).length ≤ 400000 := by rw [hTs_.els]; exact seen_few htrs
  have hE0 := hE0.thenExt hE
  have hl := hl.ext hE
  have hK := hK.ext hE
  have hSy := hSy.ext hE
  have hM4 := hM4.ext hE
  clear hE
  have hE : Ext w5 w5 := Chg.refl
  have hTs := hTs_
  refine WL.val (Y.move rfl) (by decide) ?_
  refine WL.val (Y.extract rfl rfl) (by decide) ?_
  refine WL.val (Y.extract rfl rfl) (by decide) ?_
  refine WL.allocStore1 (by kernel_rfl) rfl (by simp) rfl rfl (by decide) fun g11 w6 hx6 hg11 hB11 => ?_
  have hlt11 := hB11.lt; have hz6 := hx6.size
  have hM11 := hB11.mem; have hz6 := hx6.size; have hE := hE.thenExt hx6
  refine WL.val (Y.assign rfl) (by decide) ?_
  refine WL.nil ?_
  refine hK12 _ _ ?_; try clear hK12 K12
  refine CW.seq fun K13 hK13 => ?_
  refine CW.region ?_
  refine WL.val (Y.move rfl) (by decide) ?_
  refine WL.val (Y.move rfl) (by decide) ?_
  refine WL.call Tryd.func14 rfl rfl rfl (htree_any _ _ l iy _ (hl.ext hE) (hSy.ext hE) (hK.ext hE)) (by simp) ?_; rintro v56 w7 hR7
  obtain ⟨p7, rfl, hbad7, hgood7, hx7⟩ := hR7
  have hz7 := hx7.size
  have hE := hE.thenExt hx7
  obtain ⟨gt, rbt, rat, nst, rfl, hTt_⟩ := hgood7 tb_
  rw [tb_]
  have hGt : Fu.Good (Fw.els nst) := by rw [hTt_.els]; exact htrt.good
  have hnt_ : nst.length ≤ 400001 := by rw [← hTt_.len]; exact htrt.few
  have hft_ : (seenE (Fw.els nst)).length ≤ 400000 := by rw [hTt_.els]; exact seen_few htrt
  have hB11 := hB11.ext hx7
  have hE0 := hE0.thenExt hE
  have hl := hl.ext hE
  have hK := hK.ext hE
  have hM4 := hM4.ext hE
  have hTs := hTs.ext hE
  clear hE
  have hE : Ext w7 w7 := Chg.refl
  have hTt := hTt_
  refine WL.val (Y.move rfl) (by decide) ?_
  refine WL.val (Y.extract rfl rfl) (by decide) ?_
  refine WL.val (Y.extract rfl rfl) (by decide) ?_
  refine WL.allocStore1 (by kernel_rfl) rfl (by simp) rfl rfl (by decide) fun g13 w8 hx8 hg13 hB13 => ?_
  have hlt13 := hB13.lt; have hz8 := hx8.size
  have hM13 := hB13.mem; have hz8 := hx8.size; have hE := hE.thenExt hx8; have hB11 := hB11.ext hx8
  refine WL.val (Y.assign rfl) (by decide) ?_
  refine WL.nil ?_
  refine hK13 _ _ ?_; try clear hK13 K13
  refine CW.seq fun K14 hK14 => ?_
  refine CW.region ?_
  refine WL.val (Y.move rfl) (by decide) ?_
  refine WL.val (Y.move rfl) (by decide) ?_
  refine WL.call Tryd.func14 rfl rfl rfl (htree_any _ _ l (mgL (csL l) ix iy) _ (hl.ext hE) (hM4.ext hE) (hK.ext hE)) (by simp) ?_; rintro v62 w9 hR9
  obtain ⟨p9, rfl, hbad9, hgood9, hx9⟩ := hR9
  have hz9 := hx9.size
  have hE := hE.thenExt hx9
  obtain ⟨gm, rbm, ram, nsm, rfl, hTm_⟩ := hgood9 tm_
  rw [tm_]
  have hGm : Fu.Good (Fw.els nsm) := by rw [hTm_.els]; exact htrm.good
  have hnm_ : nsm.length ≤ 400001 := by rw [← hTm_.len]; exact htrm.few
  have hfm_ : (seenE (Fw.els nsm)).length ≤ 400000 := by rw [hTm_.els]; exact seen_few htrm
  have hB11 := hB11.ext hx9
  have hB13 := hB13.ext hx9
  have hE0 := hE0.thenExt hE
  have hK := hK.ext hE
  have hTs := hTs.ext hE
  have hTt := hTt.ext hE
  clear hE
  have hE : Ext w9 w9 := Chg.refl
  have hTm := hTm_
  refine WL.val (Y.move rfl) (by decide) ?_
  refine WL.val (Y.extract rfl rfl) (by decide) ?_
  refine WL.val (Y.extract rfl rfl) (by decide) ?_
  refine WL.val (Y.assign rfl) (by decide) ?_
  refine WL.val (Y.assign rfl) (by decide) ?_
  refine WL.nil ?_
  refine hK14 _ _ ?_; try clear hK14 K14
  refine CW.seq fun K15 hK15 => ?_
  refine CW.seq_test 74 (False) ?_ ?_
  · refine CW.region ?_
    refine WL.val (Y.move rfl) (by decide) ?_
    refine WL.val (Y.neq rfl rfl) (by decide) ?_
    refine WL.val (Y.move rfl) (by decide) ?_
    refine WL.know (d := 67) (u := .bool false) rfl (rfl) ?_
    refine WL.gval rfl rfl (Y.move rfl) (by decide) ?_
    refine WL.gval rfl rfl (Y.neq rfl rfl) (by decide) ?_
    refine WL.val (Y.pick rfl rfl) (by decide) ?_
    refine WL.val (Y.move rfl) (by decide) ?_
    refine WL.know (d := 71) (u := .bool false) rfl (rfl) ?_
    refine WL.gval rfl rfl (Y.move rfl) (by decide) ?_
    refine WL.gval rfl rfl (Y.neq rfl rfl) (by decide) ?_
    refine WL.val (Y.pick rfl rfl) (by decide) ?_
    refine WL.nil ⟨⟨_, rfl, ?_⟩, rfl, (by repeat (first | exact Fr.le.refl | refine Fr.le.push rfl ?_))⟩
    first | (simp only [*, Int.natCast_inj, Bool.not_eq_true', decide_eq_false_iff_not, decide_eq_true_eq, not_true_eq_false, not_false_eq_true, true_and, false_and, and_true, and_false, false_or, or_false, true_or, or_true, iff_true, true_iff, iff_false, false_iff]; done) | (simp_all; done) | (refine congrArg Value.bool (Bool.eq_iff_iff.2 ?_); simp_all; done) | (simp_all; omega)
  first | refine CW.condD rfl (fun ht16 => ?_) (fun ht16 => ?_) | refine CW.condND rfl (fun ht16 => ?_) (fun ht16 => ?_) | refine CW.condN rfl (fun ht16 => ?_) (fun ht16 => ?_) | refine CW.cond rfl (fun ht16 => ?_) (fun ht16 => ?_)
  · -- then
    refine CW.seq fun K17 hK17 => ?_
    refine CW.region ?_
    refine WL.val (Y.move rfl) (by decide) ?_
    refine WL.val (Y.eql rfl rfl) (by decide) ?_
    refine WL.val (Y.assign rfl) (by decide) ?_
    refine WL.nil ?_
    refine hK17 _ _ ?_; try clear hK17 K17
    refine CW.ret ⟨_, rfl, ?_⟩
    exact (by assumption : False).elim
  refine CW.skip ?_
  refine hK15 _ _ ?_; try clear hK15 K15
  refine CW.seq fun K18 hK18 => ?_
  have hu_ := union_law h0_
  refine CW.held (fun wq => Ext w9 wq) (by kernel_rfl) 9 rfl fun w10 hS => ?_
  refine RH.take 0 (fun _ _ _ _ h => h) (by kernel_rfl) hS rfl (by kernel_rfl) (by kernel_rfl) (fun wq hq => Y.load1 Tryd.underlying42 rfl (hB11.ext hq).mem.cell0 rfl) (by decide) ?_
  refine RH.take 2 (fun _ _ _ _ h => h) (by kernel_rfl) hS rfl (by kernel_rfl) (by kernel_rfl) (fun wq hq => Y.load1 Tryd.underlying42 rfl (hB13.ext hq).mem.cell0 rfl) (by decide) ?_
  refine RH.take 4 (fun _ _ _ _ h => h) (by kernel_rfl) hS rfl (by kernel_rfl) (by kernel_rfl) (fun wq hq => Y.move rfl) (by decide) ?_
  refine RH.one 1 (by kernel_rfl) ?_
  refine RS.call rfl (fun _ _ h => by cases h) Tryd.func15 rfl rfl rfl (seen_any gs rbs ras _ nss _ (hTs.ft.ext hS) hGs hns_ hfs_) (by decide) fun v78 w11 hR11 => ?_
  obtain ⟨hOp, hfp, hxp⟩ := hR11
  have hzp := hxp.size
  have hS := hS.thenExt hxp
  refine ⟨hS, ?_⟩
  refine RH.one 3 (by kernel_rfl) ?_
  refine RS.call rfl (fun _ _ h => by cases h) Tryd.func15 rfl rfl rfl (seen_any gt rbt rat _ nst _ (hTt.ft.ext hS) hGt hnt_ hft_) (by decide) fun v80 w12 hR12 => ?_
  obtain ⟨hOq, hfq, hxq⟩ := hR12
  have hzq := hxq.size
  have hS := hS.thenExt hxq
  have hOp := hOp.ext hxq
  refine ⟨hS, ?_⟩
  refine RH.one 5 (by kernel_rfl) ?_
  refine RS.call rfl (fun _ _ h => by cases h) Tryd.func15 rfl rfl rfl (seen_any gm rbm ram _ nsm _ (hTm.ft.ext hS) hGm hnm_ hfm_) (by decide) fun v82 w13 hR13 => ?_
  obtain ⟨hOm, hfm, hxm⟩ := hR13
  have hzm := hxm.size
  have hS := hS.thenExt hxm
  have hOp := hOp.ext hxm
  have hOq := hOq.ext hxm
  refine ⟨hS, ?_⟩
  refine RH.take 6 (fun _ _ _ _ h => h) (by kernel_rfl) hS rfl (by kernel_rfl) (by kernel_rfl) (fun wq hq => Y.assign rfl) (by decide) ?_
  refine RH.take 7 (fun _ _ _ _ h => h) (by kernel_rfl) hS rfl (by kernel_rfl) (by kernel_rfl) (fun wq hq => Y.assign rfl) (by decide) ?_
  refine RH.take 8 (fun _ _ _ _ h => h) (by kernel_rfl) hS rfl (by kernel_rfl) (by kernel_rfl) (fun wq hq => Y.assign rfl) (by decide) ?_
  refine RH.done (by kernel_rfl) ?_
  have hx14 := hS; have hz14 := hx14.size; have hE := hE.thenExt hx14; have hB11 := hB11.ext hx14; have hB13 := hB13.ext hx14
  refine hK18 _ _ ?_; try clear hK18 K18
  refine CW.seq fun K19 hK19 => ?_
  refine CW.seq fun K20 hK20 => ?_
  obtain ⟨P, hP⟩ : ∃ P, P = (seenE (Fw.els nss)).map (nm (Fw.els nss)) := ⟨_, rfl⟩
  obtain ⟨Q, hQ⟩ : ∃ P, P = (seenE (Fw.els nst)).map (nm (Fw.els nst)) := ⟨_, rfl⟩
  obtain ⟨M, hM⟩ : ∃ P, P = (seenE (Fw.els nsm)).map (nm (Fw.els nsm)) := ⟨_, rfl⟩
  obtain ⟨gS, hgS⟩ : ∃ f : RefD → Bool, f = fun r => hasE (Fw.els nss) r && !(placeV (Fw.els nss) r).2 := ⟨_, rfl⟩
  obtain ⟨gT, hgT⟩ : ∃ f : RefD → Bool, f = fun r => hasE (Fw.els nst) r && !(placeV (Fw.els nst) r).2 := ⟨_, rfl⟩
  have hu1 : (P.filter fun r => !gT r).length + (Q.filter fun r => !gS r && !hasE (Fw.els nss) r).length = M.length := by rw [hP, hQ, hM, hgS, hgT, hTs.els, hTt.els, hTm.els]; exact hu_.1
  have hu2 : insB gT P M = true := by rw [hP, hM, hgT, hTs.els, hTt.els, hTm.els]; exact hu_.2.1
  have hu3 : insB gS Q M = true := by rw [hQ, hM, hgS, hTs.els, hTt.els, hTm.els]; exact hu_.2.2
  clear hu_
  have hpl : P.length ≤ 400000 := by rw [hP, List.length_map]; exact hfs_
  have hql : Q.length ≤ 400000 := by rw [hQ, List.length_map]; exact hft_
  have hml : M.length ≤ 400000 := by rw [hM, List.length_map]; exact hfm_
  have hp := own_seen hOp
  have hq := own_seen hOq
  have hm := own_seen hOm
  rw [← hP] at hp
  rw [← hQ] at hq
  rw [← hM] at hm
  obtain ⟨Ap, mp, cp, rfl, hmp, _, _, hgp⟩ := _root_.id hp
  obtain ⟨Aq, mq, cq, rfl, hmq, _, _, hgq⟩ := _root_.id hq
  obtain ⟨Am, mm, cm, rfl, hmm, _, _, hgm⟩ := _root_.id hm
  have hE0 := hE0.thenExt hE
  have hTs := hTs.ext hE
  have hTt := hTt.ext hE
  have hK := hK.ext hE
  clear hE
  have hE : Ext w13 w13 := Chg.refl
  refine CW.region ?_
  refine WL.val (Y.move rfl) (by decide) ?_
  refine WL.val (Y.len_slice Tryd.underlying45 rfl) (by decide) ?_
  refine WL.val (Y.move rfl) (by decide) ?_
  refine WL.val (Y.len_slice Tryd.underlying45 rfl) (by decide) ?_
  refine WL.val (Y.add rfl rfl ⟨by omega, by omega⟩) (by decide) ?_
  refine WL.val (Y.gtr rfl rfl) (by decide) ?_
  refine WL.nil ?_
  refine hK20 _ _ ?_; try clear hK20 K20
  first | refine CW.condD rfl (fun ht21 => ?_) (fun ht21 => ?_) | refine CW.condND rfl (fun ht21 => ?_) (fun ht21 => ?_) | refine CW.condN rfl (fun ht21 => ?_) (fun ht21 => ?_) | refine CW.cond rfl (fun ht21 => ?_) (fun ht21 => ?_)
  · -- then
    refine CW.seq fun K22 hK22 => ?_
    refine CW.region ?_
    refine WL.val (Y.assign rfl) (by decide) ?_
    refine WL.nil ?_
    refine hK22 _ _ ?_; try clear hK22 K22
    refine CW.ret ⟨_, rfl, ?_⟩
    exact ⟨rfl, hE0.thenExt hE⟩
  refine CW.skip ?_
  refine hK19 _ _ ?_; try clear hK19 K19
  refine CW.seq fun K23 hK23 => ?_
  refine CW.region ?_
  refine WL.val (Y.makeFunc rfl) (by decide) ?_
  refine WL.val (Y.assign rfl) (by decide) ?_
  refine WL.nil ?_
  refine hK23 _ _ ?_; try clear hK23 K23
  refine CW.seq fun K24 hK24 => ?_
  refine CW.region ?_
  refine WL.val (Y.makeFunc rfl) (by decide) ?_
  refine WL.val (Y.assign rfl) (by decide) ?_
  refine WL.nil ?_
  refine hK24 _ _ ?_; try clear hK24 K24
  refine CW.seq fun K25 hK25 => ?_
  refine CW.region ?_
  refine WL.val (Y.assign rfl) (by decide) ?_
  refine WL.nil ?_
  refine hK25 _ _ ?_; try clear hK25 K25
  refine CW.seq fun K26 hK26 => ?_
  refine CW.seq fun K27 hK27 => ?_
  refine CW.region ?_
  refine WL.val (Y.move rfl) (by decide) ?_
  refine WL.val (Y.len_slice Tryd.underlying45 rfl) (by decide) ?_
  refine WL.val (Y.move rfl) (by decide) ?_
  refine WL.nil ?_
  refine hK27 _ _ ?_; try clear hK27 K27
  refine CW.block ?_
  refine CW.loop (X := Nat × Nat) (fun x => [(17, .slice Ap mp cp), (18, .slice Aq mq cq), (19, .slice Am mm cm), (20, .func (.func 16) #[] #[.pointer (some ⟨g13, 0, none⟩)]), (21, .func (.func 19) #[] #[.pointer (some ⟨g11, 0, none⟩)]), (11, .pointer (some ⟨g11, 0, none⟩)), (13, .pointer (some ⟨g13, 0, none⟩)), (22, .int .i64 (x.2 : Int)), (91, .slice Ap mp cp), (92, .int .i64 (mp : Int)), (93, .int .i64 (x.1 : Int))]) (fun x w0 => x.1 ≤ mp ∧ x.2 = ((P.take x.1).filter fun r => !gT r).length ∧ Ext w13 w0 ∧ Blk w0 g11 42 [.pointer (some ⟨gs, 0, none⟩)] ∧ Blk w0 g13 42 [.pointer (some ⟨gt, 0, none⟩)]) (fun x => mp - x.1) (0, 0) (by repeat (first | exact Fr.le.nil | refine Fr.le.cons rfl ?_)) ⟨Nat.zero_le _, rfl, hE, hB11, hB13⟩ ?_
  intro x w15 hl15
  clear hE hB11 hB13
  obtain ⟨i, n⟩ := x
  dsimp only at hl15 ⊢
  obtain ⟨him, hn1, hE, hB11, hB13⟩ := hl15
  have hzE := hE.size
  have hnl : n ≤ mp := by rw [hn1]; have := List.length_filter_le (fun r => !gT r) (P.take i); rw [List.length_take] at this; omega
  refine CW.seq fun K28 hK28 => ?_
  refine CW.region ?_
  refine WL.val (Y.lss rfl rfl) (by decide) ?_
  refine WL.nil ?_
  refine hK28 _ _ ?_; try clear hK28 K28
  refine CW.seq fun K29 hK29 => ?_
  first | refine CW.condD rfl (fun ht30 => ?_) (fun ht30 => ?_) | refine CW.condND rfl (fun ht30 => ?_) (fun ht30 => ?_) | refine CW.condN rfl (fun ht30 => ?_) (fun ht30 => ?_) | refine CW.cond rfl (fun ht30 => ?_) (fun ht30 => ?_)
  · -- then
    refine CW.skip ?_
    refine hK29 _ _ ?_; try clear hK29 K29
    obtain ⟨r, hr⟩ : ∃ r, P[i]? = some r := ⟨P[i]'(by omega), List.getElem?_eq_getElem _⟩
    obtain ⟨ap, rfl, hmr⟩ := hp.at hr
    refine CW.seq_to (X := Nat) (fun n => [(17, .slice (some ap) mp cp), (18, .slice Aq mq cq), (19, .slice Am mm cm), (20, .func (.func 16) #[] #[.pointer (some ⟨g13, 0, none⟩)]), (21, .func (.func 19) #[] #[.pointer (some ⟨g11, 0, none⟩)]), (11, .pointer (some ⟨g11, 0, none⟩)), (13, .pointer (some ⟨g13, 0, none⟩)), (22, .int .i64 (n : Int)), (91, .slice (some ap) mp cp), (92, .int .i64 (mp : Int)), (93, .int .i64 (i : Int))]) (fun n w0 => n = ((P.take (i + 1)).filter fun r => !gT r).length ∧ Ext w13 w0 ∧ Blk w0 g11 42 [.pointer (some ⟨gs, 0, none⟩)] ∧ Blk w0 g13 42 [.pointer (some ⟨gt, 0, none⟩)]) ?_ ?_
    · skip
      refine CW.block ?_
      refine CW.seq fun K32 hK32 => ?_
      refine CW.region ?_
      refine WL.val (Y.indexAddrN Tryd.underlying45 rfl rfl sz0_apiRef (by omega)) (by decide) ?_
      refine WL.val (Y.load Tryd.underlying50 rfl (hmr.ext hE) (sz_apiRef _) rfl) (by decide) ?_
      refine as_apiRef rfl (by simp) (by decide) fun g24 w16 hx16 hg24 hB24 => ?_
      have hlt24 := hB24.lt; have hz16 := hx16.size
      have hM24 := hB24.mem; have hz16 := hx16.size; have hE := hE.thenExt hx16; have hB11 := hB11.ext hx16; have hB13 := hB13.ext hx16
      refine WL.nil ?_
      refine hK32 _ _ ?_; try clear hK32 K32
      refine CW.seq fun K33 hK33 => ?_
      refine CW.region ?_
      refine WL.val (Y.move rfl) (by decide) ?_
      refine WL.val (Y.load Tryd.underlying50 rfl hB24.mem (sz_apiRef _) rfl) (by decide) ?_
      refine WL.callV rfl Tryd.func16 rfl rfl rfl (by have h9 := gone1_any g13 gt rbt rat _ nst r _ hB13 (hTt.ft.ext hE) hGt hnt_; rw [show (hasE (Fw.els nst) r && !(placeV (Fw.els nst) r).2) = gT r by rw [hgT]] at h9; exact h9) (by simp) ?_; rintro v99 w17 hR17
      obtain ⟨rfl, hx17⟩ := hR17
      have hz17 := hx17.size
      have hE := hE.thenExt hx17
      have hB11 := hB11.ext hx17
      have hB13 := hB13.ext hx17
      refine WL.val (Y.not rfl) (by decide) ?_
      refine WL.nil ?_
      refine hK33 _ _ ?_; try clear hK33 K33
      first | refine CW.condD rfl (fun ht34 => ?_) (fun ht34 => ?_) | refine CW.condND rfl (fun ht34 => ?_) (fun ht34 => ?_) | refine CW.condN rfl (fun ht34 => ?_) (fun ht34 => ?_) | refine CW.cond rfl (fun ht34 => ?_) (fun ht34 => ?_)
      · -- then
        refine CW.region ?_
        refine WL.val (Y.move rfl) (by decide) ?_
        refine WL.val (Y.add rfl rfl ⟨by omega, by omega⟩) (by decide) ?_
        refine WL.val (Y.assign rfl) (by decide) ?_
        refine WL.nil ?_
        exact ⟨n + 1, (by repeat (first | exact Fr.le.nil | refine Fr.le.cons rfl ?_)), by rw [flt_succ hr, if_pos (by clear hgS hgT; simp_all), hn1], hE, hB11, hB13⟩
      refine CW.skip ?_
      exact ⟨n, (by repeat (first | exact Fr.le.nil | refine Fr.le.cons rfl ?_)), by rw [flt_succ hr, if_neg (by clear hgS hgT; simp_all), hn1]; rfl, hE, hB11, hB13⟩
    rintro u w18 hj18
    clear hE hB11 hB13
    obtain ⟨hn2, hE, hB11, hB13⟩ := hj18
    refine CW.region ?_
    refine WL.val (Y.add rfl rfl ⟨by omega, by omega⟩) (by decide) ?_
    refine WL.val (Y.move rfl) (by decide) ?_
    refine WL.nil ?_
    exact ⟨(i + 1, u), by show mp - (i + 1) < mp - i; omega, (by repeat (first | exact Fr.le.nil | refine Fr.le.cons rfl ?_)), by show i + 1 ≤ mp; omega, hn2, hE, hB11, hB13⟩
  refine CW.exit ?_
  refine hK26 _ _ ?_; try clear hK26 K26
  refine CW.seq fun K35 hK35 => ?_
  refine CW.seq fun K36 hK36 => ?_
  have e1_ : P.take i = P := List.take_of_length_le (by omega)
  rw [e1_] at hn1
  obtain ⟨n1, hn1_⟩ : ∃ n1, n1 = n := ⟨_, rfl⟩
  subst hn1_
  refine CW.region ?_
  refine WL.val (Y.move rfl) (by decide) ?_
  refine WL.val (Y.len_slice Tryd.underlying45 rfl) (by decide) ?_
  refine WL.val (Y.move rfl) (by decide) ?_
  refine WL.nil ?_
  refine hK36 _ _ ?_; try clear hK36 K36
  refine CW.block ?_
  refine CW.loop (X := Nat × Nat) (fun x => [(17, .slice Ap mp cp), (18, .slice Aq mq cq), (19, .slice Am mm cm), (20, .func (.func 16) #[] #[.pointer (some ⟨g13, 0, none⟩)]), (21, .func (.func 19) #[] #[.pointer (some ⟨g11, 0, none⟩)]), (11, .pointer (some ⟨g11, 0, none⟩)), (13, .pointer (some ⟨g13, 0, none⟩)), (22, .int .i64 (x.2 : Int)), (104, .slice Aq mq cq), (105, .int .i64 (mq : Int)), (106, .int .i64 (x.1 : Int))]) (fun x w0 => x.1 ≤ mq ∧ x.2 = n1 + ((Q.take x.1).filter fun r => !gS r && !hasE (Fw.els nss) r).length ∧ Ext w13 w0 ∧ Blk w0 g11 42 [.pointer (some ⟨gs, 0, none⟩)] ∧ Blk w0 g13 42 [.pointer (some ⟨gt, 0, none⟩)]) (fun x => mq - x.1) (0, n1) (by repeat (first | exact Fr.le.nil | refine Fr.le.cons rfl ?_)) ⟨Nat.zero_le _, rfl, hE, hB11, hB13⟩ ?_
  intro x w19 hl19
  clear hE hB11 hB13
  obtain ⟨i, n⟩ := x
  dsimp only at hl19 ⊢
  obtain ⟨him, hn2, hE, hB11, hB13⟩ := hl19
  have hzE := hE.size
  have hnl : n ≤ n1 + mq := by rw [hn2]; have := List.length_filter_le (fun r => !gS r && !hasE (Fw.els nss) r) (Q.take i); rw [List.length_take] at this; omega
  refine CW.seq fun K37 hK37 => ?_
  refine CW.region ?_
  refine WL.val (Y.lss rfl rfl) (by decide) ?_
  refine WL.nil ?_
  refine hK37 _ _ ?_; try clear hK37 K37
  refine CW.seq fun K38 hK38 => ?_
  first | refine CW.condD rfl (fun ht39 => ?_) (fun ht39 => ?_) | refine CW.condND rfl (fun ht39 => ?_) (fun ht39 => ?_) | refine CW.condN rfl (fun ht39 => ?_) (fun ht39 => ?_) | refine CW.cond rfl (fun ht39 => ?_) (fun ht39 => ?_)
  · -- then
    refine CW.skip ?_
    refine hK38 _ _ ?_; try clear hK38 K38
    obtain ⟨r, hr⟩ : ∃ r, Q[i]? = some r := ⟨Q[i]'(by omega), List.getElem?_eq_getElem _⟩
    obtain ⟨aq, rfl, hmr⟩ := hq.at hr
    refine CW.seq_to (X := Nat) (fun n => [(17, .slice Ap mp cp), (18, .slice (some aq) mq cq), (19, .slice Am mm cm), (20, .func (.func 16) #[] #[.pointer (some ⟨g13, 0, none⟩)]), (21, .func (.func 19) #[] #[.pointer (some ⟨g11, 0, none⟩)]), (11, .pointer (some ⟨g11, 0, none⟩)), (13, .pointer (some ⟨g13, 0, none⟩)), (22, .int .i64 (n : Int)), (104, .slice (some aq) mq cq), (105, .int .i64 (mq : Int)), (106, .int .i64 (i : Int))]) (fun n w0 => n = n1 + ((Q.take (i + 1)).filter fun r => !gS r && !hasE (Fw.els nss) r).length ∧ Ext w13 w0 ∧ Blk w0 g11 42 [.pointer (some ⟨gs, 0, none⟩)] ∧ Blk w0 g13 42 [.pointer (some ⟨gt, 0, none⟩)]) ?_ ?_
    · skip
      refine CW.block ?_
      refine CW.seq fun K41 hK41 => ?_
      refine CW.region ?_
      refine WL.val (Y.indexAddrN Tryd.underlying45 rfl rfl sz0_apiRef (by omega)) (by decide) ?_
      refine WL.val (Y.load Tryd.underlying50 rfl (hmr.ext hE) (sz_apiRef _) rfl) (by decide) ?_
      refine as_apiRef rfl (by simp) (by decide) fun g26 w20 hx20 hg26 hB26 => ?_
      have hlt26 := hB26.lt; have hz20 := hx20.size
      have hM26 := hB26.mem; have hz20 := hx20.size; have hE := hE.thenExt hx20; have hB11 := hB11.ext hx20; have hB13 := hB13.ext hx20
      refine WL.nil ?_
      refine hK41 _ _ ?_; try clear hK41 K41
      refine CW.seq_testE 119 ((!gS r) = true ∧ (!hasE (Fw.els nss) r) = true) ?_ ?_
      · refine CW.region ?_
        refine WL.val (Y.move rfl) (by decide) ?_
        refine WL.val (Y.load Tryd.underlying50 rfl hB26.mem (sz_apiRef _) rfl) (by decide) ?_
        refine WL.callV rfl Tryd.func19 rfl rfl rfl (by have h9 := gone2_any g11 gs rbs ras _ nss r _ hB11 (hTs.ft.ext hE) hGs hns_; rw [show (hasE (Fw.els nss) r && !(placeV (Fw.els nss) r).2) = gS r by rw [hgS]] at h9; exact h9) (by simp) ?_; rintro v112 w21 hR21
        obtain ⟨rfl, hx21⟩ := hR21
        have hz21 := hx21.size
        have hE := hE.thenExt hx21
        have hB11 := hB11.ext hx21
        have hB13 := hB13.ext hx21
        have hB26 := hB26.ext hx21
        refine WL.val (Y.not rfl) (by decide) ?_
        refine WL.val (Y.move rfl) (by decide) ?_
        first | refine WL.casesD (d := 114) rfl (fun hg114 => ?_) (fun hg114 => ?_) | refine WL.casesND (d := 114) rfl (fun hg114 => ?_) (fun hg114 => ?_) | refine WL.cases (d := 114) rfl (fun hg114 => ?_) (fun hg114 => ?_)
        · -- t114 = T
          refine WL.gval rfl rfl (Y.load1 Tryd.underlying42 rfl hB11.mem.cell0 rfl) (by decide) ?_
          refine WL.gval rfl rfl (Y.load Tryd.underlying50 rfl hB26.mem (sz_apiRef _) rfl) (by decide) ?_
          refine WL.gcall rfl rfl Tryd.func18 rfl rfl rfl (fhas_any gs rbs ras _ nss r _ (hTs.ft.ext hE) hGs) (by decide) ?_; rintro v w22 ⟨rfl, hx22⟩; have hz22 := hx22.size; have hE := hE.thenExt hx22; have hB11 := hB11.ext hx22; have hB13 := hB13.ext hx22; have hB26 := hB26.ext hx22
          refine WL.gval rfl rfl (Y.not rfl) (by decide) ?_
          refine WL.val (Y.pick rfl rfl) (by decide) ?_
          refine WL.nil ⟨⟨_, rfl, ?_⟩, (hx21.thenExt hx22), (by repeat (first | exact Fr.le.refl | refine Fr.le.push rfl ?_))⟩
          first | (simp only [*, Int.natCast_inj, Bool.not_eq_true', decide_eq_false_iff_not, decide_eq_true_eq, not_true_eq_false, not_false_eq_true, true_and, false_and, and_true, and_false, false_or, or_false, true_or, or_true, iff_true, true_iff, iff_false, false_iff]; done) | (simp_all; done) | (refine congrArg Value.bool (Bool.eq_iff_iff.2 ?_); simp_all; done) | (simp_all; omega)
        · -- t114 = F
          refine WL.goff rfl rfl (by decide) ?_
          refine WL.goff rfl rfl (by decide) ?_
          refine WL.goff rfl rfl (by decide) ?_
          refine WL.goff rfl rfl (by decide) ?_
          refine WL.val (Y.pick rfl rfl) (by decide) ?_
          refine WL.nil ⟨⟨_, rfl, ?_⟩, hx21, (by repeat (first | exact Fr.le.refl | refine Fr.le.push rfl ?_))⟩
          first | (simp only [*, Int.natCast_inj, Bool.not_eq_true', decide_eq_false_iff_not, decide_eq_true_eq, not_true_eq_false, not_false_eq_true, true_and, false_and, and_true, and_false, false_or, or_false, true_or, or_true, iff_true, true_iff, iff_false, false_iff]; done) | (simp_all; done) | (refine congrArg Value.bool (Bool.eq_iff_iff.2 ?_); simp_all; done) | (simp_all; omega)
      intro w23 hx23; have hz23 := hx23.size; have hE := hE.thenExt hx23; have hB11 := hB11.ext hx23; have hB13 := hB13.ext hx23; have hB26 := hB26.ext hx23
      first | refine CW.condD rfl (fun ht42 => ?_) (fun ht42 => ?_) | refine CW.condND rfl (fun ht42 => ?_) (fun ht42 => ?_) | refine CW.condN rfl (fun ht42 => ?_) (fun ht42 => ?_) | refine CW.cond rfl (fun ht42 => ?_) (fun ht42 => ?_)
      · -- then
        refine CW.region ?_
        refine WL.val (Y.move rfl) (by decide) ?_
        refine WL.val (Y.add rfl rfl ⟨by omega, by omega⟩) (by decide) ?_
        refine WL.val (Y.assign rfl) (by decide) ?_
        refine WL.nil ?_
        exact ⟨n + 1, (by repeat (first | exact Fr.le.nil | refine Fr.le.cons rfl ?_)), by rw [flt_succ hr, if_pos (by clear hgS hgT; simp_all), hn2]; omega, hE, hB11, hB13⟩
      refine CW.skip ?_
      exact ⟨n, (by repeat (first | exact Fr.le.nil | refine Fr.le.cons rfl ?_)), by rw [flt_succ hr, if_neg (by clear hgS hgT; simp_all), hn2]; rfl, hE, hB11, hB13⟩
    rintro u w24 hj24
    clear hE hB11 hB13
    obtain ⟨hn3, hE, hB11, hB13⟩ := hj24
    refine CW.region ?_
    refine WL.val (Y.add rfl rfl ⟨by omega, by omega⟩) (by decide) ?_
    refine WL.val (Y.move rfl) (by decide) ?_
    refine WL.nil ?_
    exact ⟨(i + 1, u), by show mq - (i + 1) < mq - i; omega, (by repeat (first | exact Fr.le.nil | refine Fr.le.cons rfl ?_)), by show i + 1 ≤ mq; omega, hn3, hE, hB11, hB13⟩
  refine CW.exit ?_
  refine hK35 _ _ ?_; try clear hK35 K35
  refine CW.seq fun K43 hK43 => ?_
  have e2_ : Q.take i = Q := List.take_of_length_le (by omega)
  rw [e2_] at hn2
  have hcount : n = mm := by omega
  refine CW.region ?_
  refine WL.val (Y.move rfl) (by decide) ?_
  refine WL.val (Y.move rfl) (by decide) ?_
  refine WL.val (Y.len_slice Tryd.underlying45 rfl) (by decide) ?_
  refine WL.val (Y.eql rfl rfl) (by decide) ?_
  refine WL.val (Y.move rfl) (by decide) ?_
  refine WL.know (d := 127) (u := .bool true) rfl (by rw [hcount]; simp) ?_
  refine WL.gval rfl rfl (Y.move rfl) (by decide) ?_
  refine WL.gval rfl rfl (Y.move rfl) (by decide) ?_
  refine WL.gval rfl rfl (Y.move rfl) (by decide) ?_
  refine WL.gcall rfl rfl Tryd.func20 rfl rfl rfl (inside_any _ _ P M 16 [.pointer (some ⟨g13, 0, none⟩)] _ gT _ (hp.ext hE) (hm.ext hE) Tryd.func16 rfl rfl (fun r w1 hx => by have h9 := gone1_any g13 gt rbt rat _ nst r w1 (hB13.ext hx) (hTt.ft.ext (hE.thenExt hx)) hGt hnt_; rw [show (hasE (Fw.els nst) r && !(placeV (Fw.els nst) r).2) = gT r by rw [hgT]] at h9; exact h9)) (by decide) ?_; rintro v w25 ⟨rfl, hx25⟩; have hz25 := hx25.size; have hE := hE.thenExt hx25; have hB11 := hB11.ext hx25; have hB13 := hB13.ext hx25
  refine WL.val (Y.pick rfl rfl) (by decide) ?_
  refine WL.val (Y.move rfl) (by decide) ?_
  refine WL.know (d := 133) (u := .bool true) rfl (by rw [hu2]) ?_
  refine WL.gval rfl rfl (Y.move rfl) (by decide) ?_
  refine WL.gval rfl rfl (Y.move rfl) (by decide) ?_
  refine WL.gval rfl rfl (Y.move rfl) (by decide) ?_
  refine WL.gcall rfl rfl Tryd.func20 rfl rfl rfl (inside_any _ _ Q M 19 [.pointer (some ⟨g11, 0, none⟩)] _ gS _ (hq.ext hE) (hm.ext hE) Tryd.func19 rfl rfl (fun r w1 hx => by have h9 := gone2_any g11 gs rbs ras _ nss r w1 (hB11.ext hx) (hTs.ft.ext (hE.thenExt hx)) hGs hns_; rw [show (hasE (Fw.els nss) r && !(placeV (Fw.els nss) r).2) = gS r by rw [hgS]] at h9; exact h9)) (by decide) ?_; rintro v w26 ⟨rfl, hx26⟩; have hz26 := hx26.size; have hE := hE.thenExt hx26; have hB11 := hB11.ext hx26; have hB13 := hB13.ext hx26
  refine WL.val (Y.pick rfl rfl) (by decide) ?_
  refine WL.val (Y.assign rfl) (by decide) ?_
  refine WL.nil ?_
  refine hK43 _ _ ?_; try clear hK43 K43
  refine CW.ret ⟨_, rfl, ?_⟩
  exact ⟨by rw [hu3], hE0.thenExt hE⟩
end Go.Proofs.YtjbeooimhoilmaaDoor
