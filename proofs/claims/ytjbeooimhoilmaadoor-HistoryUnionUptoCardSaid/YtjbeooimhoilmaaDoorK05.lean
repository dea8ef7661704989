/- Parts of a proof: what its last text leans on. No condition. -/
import Derived.Test.YtjbeooimhoilmaaDoorK04
set_option linter.unusedSimpArgs false
set_option linter.unusedVariables false
/- What is wrong with an operation: commit.Right and the reference's Right, walked; the reference's Name. No condition. -/
namespace Go.Proofs.YtjbeooimhoilmaaDoor
open Go.RowKit Go.Fw Go.Pl
theorem right_any (lv : Value) (l : List OpD) (i : Int) (w : World) (hl : Sl w opC 37 lv l) (hi : InI64 i) : Calls Tryd.prog 55 #[lv, .int .i64 i] w (Ret fun v w' => v = .int .i64 (rightI l i) ∧ Ext w w') := by
  obtain ⟨A, m, c, rfl, hm, hmc, hcm, hls⟩ := hl
  unfold maxLen at hcm
  refine calls_of_CW 69 [4] [(0, .slice A m c), (1, .int .i64 i)] Tryd.func55 rfl rfl rfl (by simp) args2 ?_
  refine CW.seq fun K1 hK1 => ?_
  refine CW.region ?_
  refine WL.val (Y.assign rfl) (by decide) ?_
  refine WL.nil ?_
  refine hK1 _ _ ?_; try clear hK1 K1
  refine CW.seq fun K2 hK2 => ?_
  refine CW.seq_test 13 (i < 1 ∨ (m : Int) < i) ?_ ?_
  · refine CW.region ?_
    refine WL.val (Y.move rfl) (by decide) ?_
    refine WL.val (Y.lss rfl rfl) (by decide) ?_
    refine WL.val (Y.move rfl) (by decide) ?_
    first | refine WL.casesD (d := 8) rfl (fun hg8 => ?_) (fun hg8 => ?_) | refine WL.casesND (d := 8) rfl (fun hg8 => ?_) (fun hg8 => ?_) | refine WL.cases (d := 8) rfl (fun hg8 => ?_) (fun hg8 => ?_)
    · -- t8 = T
      refine WL.goff rfl rfl (by decide) ?_
      refine WL.goff rfl rfl (by decide) ?_
      refine WL.goff rfl rfl (by decide) ?_
      refine WL.goff rfl rfl (by decide) ?_
      refine WL.val (Y.pick rfl rfl) (by decide) ?_
      refine WL.nil ⟨⟨_, rfl, ?_⟩, rfl, (by repeat (first | exact Fr.le.refl | refine Fr.le.push rfl ?_))⟩
      first | (simp only [*, Int.natCast_inj, Bool.not_eq_true', decide_eq_false_iff_not, decide_eq_true_eq, not_true_eq_false, not_false_eq_true, true_and, false_and, and_true, and_false, false_or, or_false, true_or, or_true, iff_true, true_iff, iff_false, false_iff]; done) | (simp_all; done) | (refine congrArg Value.bool (Bool.eq_iff_iff.2 ?_); simp_all; done) | (simp_all; omega)
    · -- t8 = F
      refine WL.gval rfl rfl (Y.move rfl) (by decide) ?_
      refine WL.gval rfl rfl (Y.move rfl) (by decide) ?_
      refine WL.gval rfl rfl (Y.len_slice Tryd.underlying35 rfl) (by decide) ?_
      refine WL.gval rfl rfl (Y.gtr rfl rfl) (by decide) ?_
      refine WL.val (Y.pick rfl rfl) (by decide) ?_
      refine WL.nil ⟨⟨_, rfl, ?_⟩, rfl, (by repeat (first | exact Fr.le.refl | refine Fr.le.push rfl ?_))⟩
      first | (simp only [*, Int.natCast_inj, Bool.not_eq_true', decide_eq_false_iff_not, decide_eq_true_eq, not_true_eq_false, not_false_eq_true, true_and, false_and, and_true, and_false, false_or, or_false, true_or, or_true, iff_true, true_iff, iff_false, false_iff]; done) | (simp_all; done) | (refine congrArg Value.bool (Bool.eq_iff_iff.2 ?_); simp_all; done) | (simp_all; omega)
  first | refine CW.condD rfl (fun ht3 => ?_) (fun ht3 => ?_) | refine CW.condND rfl (fun ht3 => ?_) (fun ht3 => ?_) | refine CW.condN rfl (fun ht3 => ?_) (fun ht3 => ?_) | refine CW.cond rfl (fun ht3 => ?_) (fun ht3 => ?_)
  · -- then
    refine CW.seq fun K4 hK4 => ?_
    refine CW.region ?_
    refine WL.val (Y.assign rfl) (by decide) ?_
    refine WL.nil ?_
    refine hK4 _ _ ?_; try clear hK4 K4
    refine CW.ret ⟨_, rfl, ?_⟩
    exact ⟨by rw [rightI, if_pos (by rw [hm]; exact ht3)], Chg.refl⟩
  refine CW.skip ?_
  refine hK2 _ _ ?_; try clear hK2 K2
  refine CW.seq fun K5 hK5 => ?_
  have hlo : ¬ (i < 1 ∨ (m : Int) < i) := ht3
  obtain ⟨x, hx⟩ : ∃ x, l[(i - 1).toNat]? = some x := ⟨_, List.getElem?_eq_getElem (by omega)⟩
  obtain ⟨ad, rfl, hmx⟩ := hls _ x hx
  have hval : rightI l i = rightX l i x := rightI_of (by rw [hm]; exact hlo) hx
  refine CW.region ?_
  refine WL.val (Y.move rfl) (by decide) ?_
  refine WL.val (Y.move rfl) (by decide) ?_
  refine WL.val (Y.sub rfl rfl ⟨by omega, by omega⟩) (by decide) ?_
  refine WL.val (Y.indexAddr Tryd.underlying35 rfl rfl sz0_apiOp (by omega) (by omega)) (by decide) ?_
  refine WL.val (Y.load Tryd.underlying63 rfl hmx (sz_apiOp _) rfl) (by decide) ?_
  refine as_apiOp rfl (by simp) (by decide) fun g5 w1 hx1 hg5 hB5 => ?_
  have hM5 := hB5.mem
  refine WL.nil ?_
  refine hK5 _ _ ?_; try clear hK5 K5
  refine CW.seq fun K6 hK6 => ?_
  refine CW.seq fun K7 hK7 => ?_
  refine CW.region ?_
  refine WL.val (Y.fieldAddr fo_apiOp2 rfl) (by decide) ?_
  refine WL.val (Y.load Tryd.underlying50 rfl hM5.op2 (sz_apiRef _) rfl) (by decide) ?_
  refine WL.call Tryd.func66 rfl rfl rfl ((ref_any _ _)) (by simp) ?_; rintro v w2 ⟨rfl, hx2⟩; have hM5 := hM5.ext hx2
  refine WL.val (Y.not rfl) (by decide) ?_
  refine WL.nil ?_
  refine hK7 _ _ ?_; try clear hK7 K7
  first | refine CW.condD rfl (fun ht8 => ?_) (fun ht8 => ?_) | refine CW.condND rfl (fun ht8 => ?_) (fun ht8 => ?_) | refine CW.condN rfl (fun ht8 => ?_) (fun ht8 => ?_) | refine CW.cond rfl (fun ht8 => ?_) (fun ht8 => ?_)
  · -- then
    refine CW.seq fun K9 hK9 => ?_
    refine CW.region ?_
    refine WL.val (Y.assign rfl) (by decide) ?_
    refine WL.nil ?_
    refine hK9 _ _ ?_; try clear hK9 K9
    refine CW.ret ⟨_, rfl, ?_⟩
    exact ⟨by rw [hval]; first | (simp_all [rightX]; done) | (simp_all [rightX]; omega), (hx1.thenExt hx2)⟩
  refine CW.skip ?_
  refine hK6 _ _ ?_; try clear hK6 K6
  refine CW.seq_join (fun w0 => Ext w2 w0 ∧ (¬ (x.kind = 1 ∧ (x.left = true ∧ rootB x.at_ = true)) ∧ ¬ (x.kind = 2 ∧ (x.left = true ∨ (x.byte.toNat : Int) ≠ 0 ∨ rootB x.at_ = true)) ∧ ¬ (x.kind ≠ 1 ∧ x.kind ≠ 2))) ?_ ?_
  · skip
    refine CW.seq fun K11 hK11 => ?_
    refine CW.region ?_
    refine WL.val (Y.fieldAddr fo_apiOp0 rfl) (by decide) ?_
    refine WL.val (Y.load1 Tryd.underlying3 rfl hM5.op0 rfl) (by decide) ?_
    refine WL.nil ?_
    refine hK11 _ _ ?_; try clear hK11 K11
    refine CW.block ?_
    refine CW.seq fun K12 hK12 => ?_
    refine CW.region ?_
    refine WL.val (Y.eql rfl rfl) (by decide) ?_
    refine WL.val (Y.assign rfl) (by decide) ?_
    refine WL.nil ?_
    refine hK12 _ _ ?_; try clear hK12 K12
    first | refine CW.condD rfl (fun ht13 => ?_) (fun ht13 => ?_) | refine CW.condND rfl (fun ht13 => ?_) (fun ht13 => ?_) | refine CW.condN rfl (fun ht13 => ?_) (fun ht13 => ?_) | refine CW.cond rfl (fun ht13 => ?_) (fun ht13 => ?_)
    · -- then
      refine CW.seq_testE 33 (x.left = true ∧ rootB x.at_ = true) ?_ ?_
      · refine CW.region ?_
        refine WL.val (Y.fieldAddr fo_apiOp1 rfl) (by decide) ?_
        refine WL.val (Y.load1 Tryd.underlying4 rfl hM5.op1 rfl) (by decide) ?_
        refine WL.val (Y.move rfl) (by decide) ?_
        first | refine WL.casesD (d := 29) rfl (fun hg29 => ?_) (fun hg29 => ?_) | refine WL.casesND (d := 29) rfl (fun hg29 => ?_) (fun hg29 => ?_) | refine WL.cases (d := 29) rfl (fun hg29 => ?_) (fun hg29 => ?_)
        · -- t29 = T
          refine WL.gval rfl rfl (Y.fieldAddr fo_apiOp2 rfl) (by decide) ?_
          refine WL.gval rfl rfl (Y.load Tryd.underlying50 rfl hM5.op2 (sz_apiRef _) rfl) (by decide) ?_
          refine WL.gcall rfl rfl Tryd.func67 rfl rfl rfl ((root_any _ _)) (by decide) ?_; rintro v w3 ⟨rfl, hx3⟩; have hM5 := hM5.ext hx3
          refine WL.val (Y.pick rfl rfl) (by decide) ?_
          refine WL.nil ⟨⟨_, rfl, ?_⟩, hx3, (by repeat (first | exact Fr.le.refl | refine Fr.le.push rfl ?_))⟩
          first | (simp only [*, Int.natCast_inj, Bool.not_eq_true', decide_eq_false_iff_not, decide_eq_true_eq, not_true_eq_false, not_false_eq_true, true_and, false_and, and_true, and_false, false_or, or_false, true_or, or_true, iff_true, true_iff, iff_false, false_iff]; done) | (simp_all; done) | (refine congrArg Value.bool (Bool.eq_iff_iff.2 ?_); simp_all; done) | (simp_all; omega)
        · -- t29 = F
          refine WL.goff rfl rfl (by decide) ?_
          refine WL.goff rfl rfl (by decide) ?_
          refine WL.goff rfl rfl (by decide) ?_
          refine WL.val (Y.pick rfl rfl) (by decide) ?_
          refine WL.nil ⟨⟨_, rfl, ?_⟩, Chg.refl, (by repeat (first | exact Fr.le.refl | refine Fr.le.push rfl ?_))⟩
          first | (simp only [*, Int.natCast_inj, Bool.not_eq_true', decide_eq_false_iff_not, decide_eq_true_eq, not_true_eq_false, not_false_eq_true, true_and, false_and, and_true, and_false, false_or, or_false, true_or, or_true, iff_true, true_iff, iff_false, false_iff]; done) | (simp_all; done) | (refine congrArg Value.bool (Bool.eq_iff_iff.2 ?_); simp_all; done) | (simp_all; omega)
      intro w4 hx4; have hM5 := hM5.ext hx4
      first | refine CW.condD rfl (fun ht14 => ?_) (fun ht14 => ?_) | refine CW.condND rfl (fun ht14 => ?_) (fun ht14 => ?_) | refine CW.condN rfl (fun ht14 => ?_) (fun ht14 => ?_) | refine CW.cond rfl (fun ht14 => ?_) (fun ht14 => ?_)
      · -- then
        refine CW.seq fun K15 hK15 => ?_
        refine CW.region ?_
        refine WL.val (Y.assign rfl) (by decide) ?_
        refine WL.nil ?_
        refine hK15 _ _ ?_; try clear hK15 K15
        refine CW.ret ⟨_, rfl, ?_⟩
        exact ⟨by rw [hval]; first | (simp_all [rightX]; done) | (simp_all [rightX]; omega), ((hx1.thenExt hx2).thenExt hx4)⟩
      refine CW.skip ?_
      exact ⟨(by repeat (first | exact Fr.le.refl | refine Fr.le.push rfl ?_)), hx4, (by first | (simp_all; done) | (simp_all; omega))⟩
    refine CW.seq fun K16 hK16 => ?_
    refine CW.region ?_
    refine WL.val (Y.eql rfl rfl) (by decide) ?_
    refine WL.val (Y.assign rfl) (by decide) ?_
    refine WL.nil ?_
    refine hK16 _ _ ?_; try clear hK16 K16
    first | refine CW.condD rfl (fun ht17 => ?_) (fun ht17 => ?_) | refine CW.condND rfl (fun ht17 => ?_) (fun ht17 => ?_) | refine CW.condN rfl (fun ht17 => ?_) (fun ht17 => ?_) | refine CW.cond rfl (fun ht17 => ?_) (fun ht17 => ?_)
    · -- then
      refine CW.seq_testE 47 (x.left = true ∨ (x.byte.toNat : Int) ≠ 0 ∨ rootB x.at_ = true) ?_ ?_
      · refine CW.region ?_
        refine WL.val (Y.fieldAddr fo_apiOp1 rfl) (by decide) ?_
        refine WL.val (Y.load1 Tryd.underlying4 rfl hM5.op1 rfl) (by decide) ?_
        refine WL.val (Y.move rfl) (by decide) ?_
        first | refine WL.casesD (d := 38) rfl (fun hg38 => ?_) (fun hg38 => ?_) | refine WL.casesND (d := 38) rfl (fun hg38 => ?_) (fun hg38 => ?_) | refine WL.cases (d := 38) rfl (fun hg38 => ?_) (fun hg38 => ?_)
        · -- t38 = T
          refine WL.goff rfl rfl (by decide) ?_
          refine WL.goff rfl rfl (by decide) ?_
          refine WL.goff rfl rfl (by decide) ?_
          refine WL.val (Y.pick rfl rfl) (by decide) ?_
          refine WL.val (Y.move rfl) (by decide) ?_
          refine WL.goff rfl rfl (by decide) ?_
          refine WL.goff rfl rfl (by decide) ?_
          refine WL.goff rfl rfl (by decide) ?_
          refine WL.val (Y.pick rfl rfl) (by decide) ?_
          refine WL.nil ⟨⟨_, rfl, ?_⟩, Chg.refl, (by repeat (first | exact Fr.le.refl | refine Fr.le.push rfl ?_))⟩
          first | (simp only [*, Int.natCast_inj, Bool.not_eq_true', decide_eq_false_iff_not, decide_eq_true_eq, not_true_eq_false, not_false_eq_true, true_and, false_and, and_true, and_false, false_or, or_false, true_or, or_true, iff_true, true_iff, iff_false, false_iff]; done) | (simp_all; done) | (refine congrArg Value.bool (Bool.eq_iff_iff.2 ?_); simp_all; done) | (simp_all; omega)
        · -- t38 = F
          refine WL.gval rfl rfl (Y.fieldAddr fo_apiOp3 rfl) (by decide) ?_
          refine WL.gval rfl rfl (Y.load1 Tryd.underlying5 rfl hM5.op3 rfl) (by decide) ?_
          refine WL.gval rfl rfl (Y.neq rfl rfl) (by decide) ?_
          refine WL.val (Y.pick rfl rfl) (by decide) ?_
          refine WL.val (Y.move rfl) (by decide) ?_
          first | refine WL.casesD (d := 43) rfl (fun hg43 => ?_) (fun hg43 => ?_) | refine WL.casesND (d := 43) rfl (fun hg43 => ?_) (fun hg43 => ?_) | refine WL.cases (d := 43) rfl (fun hg43 => ?_) (fun hg43 => ?_)
          · -- t43 = T
            refine WL.goff rfl rfl (by decide) ?_
            refine WL.goff rfl rfl (by decide) ?_
            refine WL.goff rfl rfl (by decide) ?_
            refine WL.val (Y.pick rfl rfl) (by decide) ?_
            refine WL.nil ⟨⟨_, rfl, ?_⟩, Chg.refl, (by repeat (first | exact Fr.le.refl | refine Fr.le.push rfl ?_))⟩
            first | (simp only [*, Int.natCast_inj, Bool.not_eq_true', decide_eq_false_iff_not, decide_eq_true_eq, not_true_eq_false, not_false_eq_true, true_and, false_and, and_true, and_false, false_or, or_false, true_or, or_true, iff_true, true_iff, iff_false, false_iff]; done) | (simp_all; done) | (refine congrArg Value.bool (Bool.eq_iff_iff.2 ?_); simp_all; done) | (simp_all; omega)
          · -- t43 = F
            refine WL.gval rfl rfl (Y.fieldAddr fo_apiOp2 rfl) (by decide) ?_
            refine WL.gval rfl rfl (Y.load Tryd.underlying50 rfl hM5.op2 (sz_apiRef _) rfl) (by decide) ?_
            refine WL.gcall rfl rfl Tryd.func67 rfl rfl rfl ((root_any _ _)) (by decide) ?_; rintro v w5 ⟨rfl, hx5⟩; have hM5 := hM5.ext hx5
            refine WL.val (Y.pick rfl rfl) (by decide) ?_
            refine WL.nil ⟨⟨_, rfl, ?_⟩, hx5, (by repeat (first | exact Fr.le.refl | refine Fr.le.push rfl ?_))⟩
            first | (simp only [*, Int.natCast_inj, Bool.not_eq_true', decide_eq_false_iff_not, decide_eq_true_eq, not_true_eq_false, not_false_eq_true, true_and, false_and, and_true, and_false, false_or, or_false, true_or, or_true, iff_true, true_iff, iff_false, false_iff]; done) | (simp_all; done) | (refine congrArg Value.bool (Bool.eq_iff_iff.2 ?_); simp_all; done) | (simp_all; omega)
      intro w6 hx6; have hM5 := hM5.ext hx6
      first | refine CW.condD rfl (fun ht18 => ?_) (fun ht18 => ?_) | refine CW.condND rfl (fun ht18 => ?_) (fun ht18 => ?_) | refine CW.condN rfl (fun ht18 => ?_) (fun ht18 => ?_) | refine CW.cond rfl (fun ht18 => ?_) (fun ht18 => ?_)
      · -- then
        refine CW.seq fun K19 hK19 => ?_
        refine CW.region ?_
        refine WL.val (Y.assign rfl) (by decide) ?_
        refine WL.nil ?_
        refine hK19 _ _ ?_; try clear hK19 K19
        refine CW.ret ⟨_, rfl, ?_⟩
        exact ⟨by rw [hval]; first | (simp_all [rightX]; done) | (simp_all [rightX]; omega), ((hx1.thenExt hx2).thenExt hx6)⟩
      refine CW.skip ?_
      exact ⟨(by repeat (first | exact Fr.le.refl | refine Fr.le.push rfl ?_)), hx6, (by first | (simp_all; done) | (simp_all; omega))⟩
    refine CW.seq fun K20 hK20 => ?_
    refine CW.region ?_
    refine WL.val (Y.assign rfl) (by decide) ?_
    refine WL.nil ?_
    refine hK20 _ _ ?_; try clear hK20 K20
    refine CW.ret ⟨_, rfl, ?_⟩
    exact ⟨by rw [hval]; first | (simp_all [rightX]; done) | (simp_all [rightX]; omega), (hx1.thenExt hx2)⟩
  rintro w7 ⟨hx7, hj7⟩; have hM5 := hM5.ext hx7
  refine CW.seq fun K21 hK21 => ?_
  refine CW.seq_test 68 (x.at_.own = true ∧ (i ≤ x.at_.n ∨ kindAt l (x.at_.n - 1).toNat ≠ 1)) ?_ ?_
  · refine CW.region ?_
    refine WL.val (Y.fieldAddr fo_apiOp2 rfl) (by decide) ?_
    refine WL.val (Y.fieldAddr fo_apiRef0 rfl) (by decide) ?_
    refine WL.val (Y.load1 Tryd.underlying4 rfl hM5.op2.ref0 rfl) (by decide) ?_
    refine WL.val (Y.move rfl) (by decide) ?_
    first | refine WL.casesD (d := 51) rfl (fun hg51 => ?_) (fun hg51 => ?_) | refine WL.casesND (d := 51) rfl (fun hg51 => ?_) (fun hg51 => ?_) | refine WL.cases (d := 51) rfl (fun hg51 => ?_) (fun hg51 => ?_)
    · -- t51 = T
      refine WL.gval rfl rfl (Y.fieldAddr fo_apiOp2 rfl) (by decide) ?_
      refine WL.gval rfl rfl (Y.fieldAddr fo_apiRef2 rfl) (by decide) ?_
      refine WL.gval rfl rfl (Y.load1 Tryd.underlying3 rfl hM5.op2.ref2 rfl) (by decide) ?_
      refine WL.gval rfl rfl (Y.move rfl) (by decide) ?_
      refine WL.gval rfl rfl (Y.geq rfl rfl) (by decide) ?_
      refine WL.gval rfl rfl (Y.move rfl) (by decide) ?_
      first | refine WL.casesD (d := 57) rfl (fun hg57 => ?_) (fun hg57 => ?_) | refine WL.casesND (d := 57) rfl (fun hg57 => ?_) (fun hg57 => ?_) | refine WL.cases (d := 57) rfl (fun hg57 => ?_) (fun hg57 => ?_)
      · -- t57 = T
        refine WL.goff rfl rfl (by decide) ?_
        refine WL.goff rfl rfl (by decide) ?_
        refine WL.goff rfl rfl (by decide) ?_
        refine WL.goff rfl rfl (by decide) ?_
        refine WL.goff rfl rfl (by decide) ?_
        refine WL.goff rfl rfl (by decide) ?_
        refine WL.goff rfl rfl (by decide) ?_
        refine WL.goff rfl rfl (by decide) ?_
        refine WL.goff rfl rfl (by decide) ?_
        refine WL.gval rfl rfl (Y.pick rfl rfl) (by decide) ?_
        refine WL.val (Y.pick rfl rfl) (by decide) ?_
        refine WL.nil ⟨⟨_, rfl, ?_⟩, rfl, (by repeat (first | exact Fr.le.refl | refine Fr.le.push rfl ?_))⟩
        first | (simp only [*, Int.natCast_inj, Bool.not_eq_true', decide_eq_false_iff_not, decide_eq_true_eq, not_true_eq_false, not_false_eq_true, true_and, false_and, and_true, and_false, false_or, or_false, true_or, or_true, iff_true, true_iff, iff_false, false_iff]; done) | (simp_all; done) | (refine congrArg Value.bool (Bool.eq_iff_iff.2 ?_); simp_all; done) | (simp_all; omega)
      · -- t57 = F
        refine WL.gval rfl rfl (Y.move rfl) (by decide) ?_
        refine WL.gval rfl rfl (Y.fieldAddr fo_apiOp2 rfl) (by decide) ?_
        refine WL.gval rfl rfl (Y.fieldAddr fo_apiRef2 rfl) (by decide) ?_
        refine WL.gval rfl rfl (Y.load1 Tryd.underlying3 rfl hM5.op2.ref2 rfl) (by decide) ?_
        have hn : 0 < x.at_.n := by first | (have h1 := (rk1 x.at_).1 (by assumption); simp [refB, h1.1] at h1; exact h1.2) | (simp_all [refB]; done)
        obtain ⟨y, hy⟩ : ∃ y, l[(x.at_.n - 1).toNat]? = some y := ⟨_, List.getElem?_eq_getElem (by omega)⟩
        obtain ⟨ad', e, hmy⟩ := hls _ y hy
        injection e with e; subst e
        have hk : kindAt l (x.at_.n - 1).toNat = y.kind := by rw [kindAt, hy]; rfl
        refine WL.gval rfl rfl (Y.sub rfl rfl ⟨by omega, by omega⟩) (by decide) ?_
        refine WL.gval rfl rfl (Y.indexAddr Tryd.underlying35 rfl rfl sz0_apiOp (by omega) (by omega)) (by decide) ?_
        refine WL.gval rfl rfl (Y.fieldAddr fo_apiOp0 rfl) (by decide) ?_
        refine WL.gval rfl rfl (Y.load1 Tryd.underlying3 rfl (hmy.ext ((hx1.thenExt hx2).thenExt hx7)).op0 rfl) (by decide) ?_
        refine WL.gval rfl rfl (Y.neq rfl rfl) (by decide) ?_
        refine WL.gval rfl rfl (Y.pick rfl rfl) (by decide) ?_
        refine WL.val (Y.pick rfl rfl) (by decide) ?_
        refine WL.nil ⟨⟨_, rfl, ?_⟩, rfl, (by repeat (first | exact Fr.le.refl | refine Fr.le.push rfl ?_))⟩
        first | (simp only [*, Int.natCast_inj, Bool.not_eq_true', decide_eq_false_iff_not, decide_eq_true_eq, not_true_eq_false, not_false_eq_true, true_and, false_and, and_true, and_false, false_or, or_false, true_or, or_true, iff_true, true_iff, iff_false, false_iff]; done) | (simp_all; done) | (refine congrArg Value.bool (Bool.eq_iff_iff.2 ?_); simp_all; done) | (simp_all; omega)
    · -- t51 = F
      refine WL.goff rfl rfl (by decide) ?_
      refine WL.goff rfl rfl (by decide) ?_
      refine WL.goff rfl rfl (by decide) ?_
      refine WL.goff rfl rfl (by decide) ?_
      refine WL.goff rfl rfl (by decide) ?_
      refine WL.goff rfl rfl (by decide) ?_
      refine WL.goffU rfl rfl (by decide) ?_
      refine WL.goffU rfl rfl (by decide) ?_
      refine WL.goffU rfl rfl (by decide) ?_
      refine WL.goffU rfl rfl (by decide) ?_
      refine WL.goffU rfl rfl (by decide) ?_
      refine WL.goffU rfl rfl (by decide) ?_
      refine WL.goffU rfl rfl (by decide) ?_
      refine WL.goffU rfl rfl (by decide) ?_
      refine WL.goffU rfl rfl (by decide) ?_
      refine WL.goff rfl rfl (by decide) ?_
      refine WL.val (Y.pick rfl rfl) (by decide) ?_
      refine WL.nil ⟨⟨_, rfl, ?_⟩, rfl, (by repeat (first | exact Fr.le.refl | refine Fr.le.push rfl ?_))⟩
      first | (simp only [*, Int.natCast_inj, Bool.not_eq_true', decide_eq_false_iff_not, decide_eq_true_eq, not_true_eq_false, not_false_eq_true, true_and, false_and, and_true, and_false, false_or, or_false, true_or, or_true, iff_true, true_iff, iff_false, false_iff]; done) | (simp_all; done) | (refine congrArg Value.bool (Bool.eq_iff_iff.2 ?_); simp_all; done) | (simp_all; omega)
  first | refine CW.condD rfl (fun ht22 => ?_) (fun ht22 => ?_) | refine CW.condND rfl (fun ht22 => ?_) (fun ht22 => ?_) | refine CW.condN rfl (fun ht22 => ?_) (fun ht22 => ?_) | refine CW.cond rfl (fun ht22 => ?_) (fun ht22 => ?_)
  · -- then
    refine CW.seq fun K23 hK23 => ?_
    refine CW.region ?_
    refine WL.val (Y.assign rfl) (by decide) ?_
    refine WL.nil ?_
    refine hK23 _ _ ?_; try clear hK23 K23
    refine CW.ret ⟨_, rfl, ?_⟩
    exact ⟨by rw [hval, rightX, if_neg (by simp [ht8]), if_neg hj7.1, if_neg hj7.2.1, if_neg hj7.2.2, if_pos (by assumption)], ((hx1.thenExt hx2).thenExt hx7)⟩
  refine CW.skip ?_
  refine hK21 _ _ ?_; try clear hK21 K21
  refine CW.seq fun K24 hK24 => ?_
  refine CW.region ?_
  refine WL.val (Y.assign rfl) (by decide) ?_
  refine WL.nil ?_
  refine hK24 _ _ ?_; try clear hK24 K24
  refine CW.ret ⟨_, rfl, ?_⟩
  exact ⟨by rw [hval, rightX, if_neg (by simp [ht8]), if_neg hj7.1, if_neg hj7.2.1, if_neg hj7.2.2, if_neg (by assumption)], ((hx1.thenExt hx2).thenExt hx7)⟩
end Go.Proofs.YtjbeooimhoilmaaDoor
/- What is wrong with a commit: commit.May and the reference's May, walked. No condition. -/
namespace Go.Proofs.YtjbeooimhoilmaaDoor
open Go.RowKit Go.Fw Go.Pl
theorem may_any (cv : Value) (cm : ComD) (w : World) (hc : Com w cv cm) : Calls Tryd.prog 79 #[cv] w (Ret fun v w' => v = .int .i64 (mayI cm) ∧ Ext w w') := by
  obtain ⟨pv, ov, rfl, hp, ho, hau, hno⟩ := hc
  have hoS := ho
  obtain ⟨A, m, c, rfl, hm, hmc, hcm, hps⟩ := hp
  obtain ⟨B, k, d, rfl, hk, hkd, hdm, hos⟩ := ho
  unfold maxLen at hcm hdm
  refine calls_of_CW 64 [2] [(0, .agg (comC (.slice A m c) cm.author cm.note (.slice B k d)).toArray)] Tryd.func79 rfl rfl rfl (by simp) args1 ?_
  refine CW.seq fun K1 hK1 => ?_
  refine CW.region ?_
  refine WL.box rfl rfl (by decide) fun g1 w1 hx1 hg1 hB1 => ?_
  have hM1 := hB1.mem
  refine WL.val (Y.assign rfl) (by decide) ?_
  refine WL.nil ?_
  refine hK1 _ _ ?_; try clear hK1 K1
  refine CW.seq fun K2 hK2 => ?_
  refine CW.seq fun K3 hK3 => ?_
  refine CW.region ?_
  refine WL.val (Y.fieldAddr fo_apiCommit0 rfl) (by decide) ?_
  refine WL.val (Y.load1 Tryd.underlying25 rfl hM1.com0 rfl) (by decide) ?_
  refine WL.val (Y.len_slice Tryd.underlying25 rfl) (by decide) ?_
  refine WL.val (Y.gtr rfl rfl) (by decide) ?_
  refine WL.nil ?_
  refine hK3 _ _ ?_; try clear hK3 K3
  first | refine CW.condD rfl (fun ht4 => ?_) (fun ht4 => ?_) | refine CW.condND rfl (fun ht4 => ?_) (fun ht4 => ?_) | refine CW.condN rfl (fun ht4 => ?_) (fun ht4 => ?_) | refine CW.cond rfl (fun ht4 => ?_) (fun ht4 => ?_)
  · -- then
    refine CW.seq fun K5 hK5 => ?_
    refine CW.region ?_
    refine WL.val (Y.assign rfl) (by decide) ?_
    refine WL.nil ?_
    refine hK5 _ _ ?_; try clear hK5 K5
    refine CW.ret ⟨_, rfl, ?_⟩
    exact ⟨by rw [mayI, if_pos (by omega)], hx1⟩
  refine CW.skip ?_
  refine hK2 _ _ ?_; try clear hK2 K2
  refine CW.seq fun K6 hK6 => ?_
  refine CW.seq fun K7 hK7 => ?_
  refine CW.region ?_
  refine WL.val (Y.fieldAddr fo_apiCommit0 rfl) (by decide) ?_
  refine WL.val (Y.load1 Tryd.underlying25 rfl hM1.com0 rfl) (by decide) ?_
  refine WL.val (Y.len_slice Tryd.underlying25 rfl) (by decide) ?_
  refine WL.val (Y.move rfl) (by decide) ?_
  refine WL.nil ?_
  refine hK7 _ _ ?_; try clear hK7 K7
  refine CW.block ?_
  refine CW.loop (X := Nat) (fun x => [(1, .pointer (some ⟨g1, 0, none⟩)), (12, .int .i64 (m : Int)), (13, .int .i64 (x : Int))]) (fun x w0 => x ≤ m ∧ (∀ i a b, i + 1 < x → cm.parents[i]? = some a → cm.parents[i + 1]? = some b → lessB a b = true) ∧ Ext w w0 ∧ Mem w0 ⟨g1, 0, none⟩ (comC (.slice A m c) cm.author cm.note (.slice B k d))) (fun x => m - x) 0 (Fr.le.cons rfl (Fr.le.cons rfl (Fr.le.cons rfl Fr.le.nil))) ⟨by omega, fun i a b h => by omega, hx1, hM1⟩ ?_
  intro x w2 hl2
  obtain ⟨hi, hrs, hL2, hM1⟩ := hl2
  refine CW.seq fun K8 hK8 => ?_
  refine CW.region ?_
  refine WL.val (Y.lss rfl rfl) (by decide) ?_
  refine WL.nil ?_
  refine hK8 _ _ ?_; try clear hK8 K8
  refine CW.seq fun K9 hK9 => ?_
  first | refine CW.condD rfl (fun ht10 => ?_) (fun ht10 => ?_) | refine CW.condND rfl (fun ht10 => ?_) (fun ht10 => ?_) | refine CW.condN rfl (fun ht10 => ?_) (fun ht10 => ?_) | refine CW.cond rfl (fun ht10 => ?_) (fun ht10 => ?_)
  · -- then
    refine CW.skip ?_
    refine hK9 _ _ ?_; try clear hK9 K9
    refine CW.seq fun K11 hK11 => ?_
    refine CW.block ?_
    refine CW.seq fun K12 hK12 => ?_
    refine CW.region ?_
    refine WL.val (Y.move rfl) (by decide) ?_
    refine WL.val (Y.assign rfl) (by decide) ?_
    refine WL.nil ?_
    refine hK12 _ _ ?_; try clear hK12 K12
    obtain ⟨b, hb⟩ : ∃ b, cm.parents[x]? = some b := ⟨_, List.getElem?_eq_getElem (by omega)⟩
    obtain ⟨a, ha⟩ : ∃ a, cm.parents[((x : Int) - 1).toNat]? = some a := ⟨_, List.getElem?_eq_getElem (by omega)⟩
    obtain ⟨ad, rfl, hmb⟩ := hps _ b hb
    obtain ⟨ad', e, hma⟩ := hps _ a ha
    injection e with e; subst e
    refine CW.seq_testE 32 (0 < x ∧ lessB a b = false) ?_ ?_
    · refine CW.quiet (fun wq => Ext w2 wq) (by kernel_rfl) (by kernel_rfl) Chg.drew ?_
      refine QL.val (fun wq hq => Y.move rfl) (by decide) ?_
      refine QL.val (fun wq hq => Y.gtr rfl rfl) (by decide) ?_
      refine QL.val (fun wq hq => Y.move rfl) (by decide) ?_
      first | refine QL.casesD (d := 18) rfl (fun hg18 => ?_) (fun hg18 => ?_) | refine QL.casesND (d := 18) rfl (fun hg18 => ?_) (fun hg18 => ?_) | refine QL.cases (d := 18) rfl (fun hg18 => ?_) (fun hg18 => ?_)
      · -- t18 = T
        refine QL.gval rfl rfl (fun wq hq => Y.fieldAddr fo_apiCommit0 rfl) (by decide) ?_
        refine QL.gval rfl rfl (fun wq hq => Y.load1 Tryd.underlying25 rfl (hM1.ext hq).com0 rfl) (by decide) ?_
        refine QL.gval rfl rfl (fun wq hq => Y.move rfl) (by decide) ?_
        refine QL.gval rfl rfl (fun wq hq => Y.sub rfl rfl ⟨by omega, by omega⟩) (by decide) ?_
        refine QL.gval rfl rfl (fun wq hq => Y.indexAddr Tryd.underlying25 rfl rfl sz0_apiDigest (by omega) (by omega)) (by decide) ?_
        refine QL.gval rfl rfl (fun wq hq => Y.load Tryd.underlying48 rfl (hma.ext (hL2.thenExt hq)) (sz_apiDigest _) rfl) (by decide) ?_
        refine QL.gval rfl rfl (fun wq hq => Y.fieldAddr fo_apiCommit0 rfl) (by decide) ?_
        refine QL.gval rfl rfl (fun wq hq => Y.load1 Tryd.underlying25 rfl (hM1.ext hq).com0 rfl) (by decide) ?_
        refine QL.gval rfl rfl (fun wq hq => Y.move rfl) (by decide) ?_
        refine QL.gval rfl rfl (fun wq hq => Y.indexAddrN Tryd.underlying25 rfl rfl sz0_apiDigest (by omega)) (by decide) ?_
        refine QL.gval rfl rfl (fun wq hq => Y.load Tryd.underlying48 rfl (hmb.ext (hL2.thenExt hq)) (sz_apiDigest _) rfl) (by decide) ?_
        refine QL.gcall rfl rfl Tryd.func47 rfl rfl rfl (fun wq hq => ret_ext (less_any _ _ _) hq) (by decide) ?_
        refine QL.gval rfl rfl (fun wq hq => Y.not rfl) (by decide) ?_
        refine QL.val (fun wq hq => Y.pick rfl rfl) (by decide) ?_
        refine QL.nil fun wq hq => ⟨⟨_, rfl, ?_⟩, hq, (by repeat (first | exact Fr.le.refl | refine Fr.le.push rfl ?_))⟩
        first | (simp only [*, Int.natCast_inj, Bool.not_eq_true', decide_eq_false_iff_not, decide_eq_true_eq, not_true_eq_false, not_false_eq_true, true_and, false_and, and_true, and_false, false_or, or_false, true_or, or_true, iff_true, true_iff, iff_false, false_iff]; done) | (simp_all; done) | (refine congrArg Value.bool (Bool.eq_iff_iff.2 ?_); simp_all; done) | (simp_all; omega)
      · -- t18 = F
        refine QL.goff rfl rfl (by decide) ?_
        refine QL.goff rfl rfl (by decide) ?_
        refine QL.goff rfl rfl (by decide) ?_
        refine QL.goff rfl rfl (by decide) ?_
        refine QL.goff rfl rfl (by decide) ?_
        refine QL.goff rfl rfl (by decide) ?_
        refine QL.goff rfl rfl (by decide) ?_
        refine QL.goff rfl rfl (by decide) ?_
        refine QL.goff rfl rfl (by decide) ?_
        refine QL.goff rfl rfl (by decide) ?_
        refine QL.goff rfl rfl (by decide) ?_
        refine QL.goff rfl rfl (by decide) ?_
        refine QL.goff rfl rfl (by decide) ?_
        refine QL.val (fun wq hq => Y.pick rfl rfl) (by decide) ?_
        refine QL.nil fun wq hq => ⟨⟨_, rfl, ?_⟩, hq, (by repeat (first | exact Fr.le.refl | refine Fr.le.push rfl ?_))⟩
        first | (simp only [*, Int.natCast_inj, Bool.not_eq_true', decide_eq_false_iff_not, decide_eq_true_eq, not_true_eq_false, not_false_eq_true, true_and, false_and, and_true, and_false, false_or, or_false, true_or, or_true, iff_true, true_iff, iff_false, false_iff]; done) | (simp_all; done) | (refine congrArg Value.bool (Bool.eq_iff_iff.2 ?_); simp_all; done) | (simp_all; omega)
    intro w3 hx3; have hM1 := hM1.ext hx3
    first | refine CW.condD rfl (fun ht13 => ?_) (fun ht13 => ?_) | refine CW.condND rfl (fun ht13 => ?_) (fun ht13 => ?_) | refine CW.condN rfl (fun ht13 => ?_) (fun ht13 => ?_) | refine CW.cond rfl (fun ht13 => ?_) (fun ht13 => ?_)
    · -- then
      refine CW.seq fun K14 hK14 => ?_
      refine CW.region ?_
      refine WL.val (Y.assign rfl) (by decide) ?_
      refine WL.nil ?_
      refine hK14 _ _ ?_; try clear hK14 K14
      refine CW.ret ⟨_, rfl, ?_⟩
      exact ⟨by
        rw [mayI, if_neg (by omega), if_pos (Bool.eq_false_iff.2 fun h => ?_)]
        have h0 : ((x : Int) - 1).toNat + 1 = x := by omega
        have := (rising_iff _).1 h _ a b ha (by rw [h0]; exact hb)
        simp_all, (hL2.thenExt hx3)⟩
    refine CW.skip ?_
    refine hK11 _ _ ?_; try clear hK11 K11
    refine CW.region ?_
    refine WL.val (Y.add rfl rfl ⟨by omega, by omega⟩) (by decide) ?_
    refine WL.val (Y.move rfl) (by decide) ?_
    refine WL.nil ?_
    refine ⟨x + 1, by omega, (Fr.le.cons rfl (Fr.le.cons rfl (Fr.le.cons rfl Fr.le.nil))), by omega, fun i p q h hp hq => ?_, (hL2.thenExt hx3), hM1⟩
    by_cases hix : i + 1 < x
    · exact hrs i p q hix hp hq
    · have h0 : i + 1 = x := by omega
      have h1 : ((x : Int) - 1).toNat = i := by omega
      rw [h1, hp] at ha; rw [← h0, hq] at hb
      injection ha with ha; injection hb with hb
      subst ha; subst hb
      cases hlb : lessB p q with
      | true => rfl
      | false => simp_all
  refine CW.exit ?_
  refine hK6 _ _ ?_; try clear hK6 K6
  refine CW.seq fun K15 hK15 => ?_
  refine CW.block ?_
  refine CW.seq fun K16 hK16 => ?_
  have hrise : risingB cm.parents = true := (rising_iff _).2 fun i p q hp hq => hrs i p q (by have := (List.getElem?_eq_some_iff.1 hq).1; omega) hp hq
  refine CW.region ?_
  refine WL.val (Y.fieldAddr fo_apiCommit1 rfl) (by decide) ?_
  refine WL.val (Y.load1 Tryd.underlying9 rfl hM1.com1 rfl) (by decide) ?_
  refine WL.call Tryd.func92 rfl rfl rfl ((name_any _ _ hau)) (by simp) ?_; rintro v w4 ⟨rfl, hx4⟩; have hM1 := hM1.ext hx4
  refine WL.val (Y.not rfl) (by decide) ?_
  refine WL.val (Y.assign rfl) (by decide) ?_
  refine WL.nil ?_
  refine hK16 _ _ ?_; try clear hK16 K16
  first | refine CW.condD rfl (fun ht17 => ?_) (fun ht17 => ?_) | refine CW.condND rfl (fun ht17 => ?_) (fun ht17 => ?_) | refine CW.condN rfl (fun ht17 => ?_) (fun ht17 => ?_) | refine CW.cond rfl (fun ht17 => ?_) (fun ht17 => ?_)
  · -- then
    refine CW.seq fun K18 hK18 => ?_
    refine CW.region ?_
    refine WL.val (Y.assign rfl) (by decide) ?_
    refine WL.nil ?_
    refine hK18 _ _ ?_; try clear hK18 K18
    refine CW.ret ⟨_, rfl, ?_⟩
    exact ⟨by rw [mayI, if_neg (by omega), if_neg (by simp [hrise]), if_pos (by simp_all)], (hL2.thenExt hx4)⟩
  refine CW.seq fun K19 hK19 => ?_
  refine CW.region ?_
  refine WL.val (Y.fieldAddr fo_apiCommit2 rfl) (by decide) ?_
  refine WL.val (Y.load1 Tryd.underlying9 rfl hM1.com2 rfl) (by decide) ?_
  refine WL.val (Y.len_string Tryd.underlying9 rfl) (by decide) ?_
  refine WL.val (Y.gtr rfl rfl) (by decide) ?_
  refine WL.val (Y.assign rfl) (by decide) ?_
  refine WL.nil ?_
  refine hK19 _ _ ?_; try clear hK19 K19
  first | refine CW.condD rfl (fun ht20 => ?_) (fun ht20 => ?_) | refine CW.condND rfl (fun ht20 => ?_) (fun ht20 => ?_) | refine CW.condN rfl (fun ht20 => ?_) (fun ht20 => ?_) | refine CW.cond rfl (fun ht20 => ?_) (fun ht20 => ?_)
  · -- then
    refine CW.seq fun K21 hK21 => ?_
    refine CW.region ?_
    refine WL.val (Y.assign rfl) (by decide) ?_
    refine WL.nil ?_
    refine hK21 _ _ ?_; try clear hK21 K21
    refine CW.ret ⟨_, rfl, ?_⟩
    exact ⟨by rw [mayI, if_neg (by omega), if_neg (by simp [hrise]), if_neg (by simp_all), if_pos (by omega)], (hL2.thenExt hx4)⟩
  refine CW.seq fun K22 hK22 => ?_
  refine CW.region ?_
  refine WL.val (Y.fieldAddr fo_apiCommit3 rfl) (by decide) ?_
  refine WL.val (Y.load1 Tryd.underlying35 rfl hM1.com3 rfl) (by decide) ?_
  refine WL.val (Y.len_slice Tryd.underlying35 rfl) (by decide) ?_
  refine WL.val (Y.gtr rfl rfl) (by decide) ?_
  refine WL.val (Y.assign rfl) (by decide) ?_
  refine WL.nil ?_
  refine hK22 _ _ ?_; try clear hK22 K22
  first | refine CW.condD rfl (fun ht23 => ?_) (fun ht23 => ?_) | refine CW.condND rfl (fun ht23 => ?_) (fun ht23 => ?_) | refine CW.condN rfl (fun ht23 => ?_) (fun ht23 => ?_) | refine CW.cond rfl (fun ht23 => ?_) (fun ht23 => ?_)
  · -- then
    refine CW.seq fun K24 hK24 => ?_
    refine CW.region ?_
    refine WL.val (Y.assign rfl) (by decide) ?_
    refine WL.nil ?_
    refine hK24 _ _ ?_; try clear hK24 K24
    refine CW.ret ⟨_, rfl, ?_⟩
    exact ⟨by rw [mayI, if_neg (by omega), if_neg (by simp [hrise]), if_neg (by simp_all), if_neg (by omega), if_pos (by omega)], (hL2.thenExt hx4)⟩
  refine CW.skip ?_
  refine hK15 _ _ ?_; try clear hK15 K15
  refine CW.seq fun K25 hK25 => ?_
  refine CW.seq fun K26 hK26 => ?_
  have hm5 : mayI cm = opsErr cm.ops := by rw [mayI, if_neg (by omega), if_neg (by simp [hrise]), if_neg (by simp_all), if_neg (by omega), if_neg (by omega)]
  refine CW.region ?_
  refine WL.val (Y.fieldAddr fo_apiCommit3 rfl) (by decide) ?_
  refine WL.val (Y.load1 Tryd.underlying35 rfl hM1.com3 rfl) (by decide) ?_
  refine WL.val (Y.len_slice Tryd.underlying35 rfl) (by decide) ?_
  refine WL.val (Y.move rfl) (by decide) ?_
  refine WL.nil ?_
  refine hK26 _ _ ?_; try clear hK26 K26
  refine CW.block ?_
  refine CW.loop (X := Nat) (fun x => [(1, .pointer (some ⟨g1, 0, none⟩)), (51, .int .i64 (k : Int)), (52, .int .i64 (x : Int))]) (fun x w0 => x ≤ k ∧ (∀ j : Nat, j < x → rightI cm.ops (j + 1) = 0) ∧ Ext w w0 ∧ Mem w0 ⟨g1, 0, none⟩ (comC (.slice A m c) cm.author cm.note (.slice B k d))) (fun x => k - x) 0 (Fr.le.cons rfl (Fr.le.cons rfl (Fr.le.cons rfl Fr.le.nil))) ⟨by omega, fun j h => by omega, (hL2.thenExt hx4), hM1⟩ ?_
  intro x w5 hl5
  obtain ⟨hi, hrs, hL5, hM1⟩ := hl5
  refine CW.seq fun K27 hK27 => ?_
  refine CW.region ?_
  refine WL.val (Y.lss rfl rfl) (by decide) ?_
  refine WL.nil ?_
  refine hK27 _ _ ?_; try clear hK27 K27
  refine CW.seq fun K28 hK28 => ?_
  first | refine CW.condD rfl (fun ht29 => ?_) (fun ht29 => ?_) | refine CW.condND rfl (fun ht29 => ?_) (fun ht29 => ?_) | refine CW.condN rfl (fun ht29 => ?_) (fun ht29 => ?_) | refine CW.cond rfl (fun ht29 => ?_) (fun ht29 => ?_)
  · -- then
    refine CW.skip ?_
    refine hK28 _ _ ?_; try clear hK28 K28
    refine CW.seq fun K30 hK30 => ?_
    refine CW.block ?_
    refine CW.seq fun K31 hK31 => ?_
    refine CW.region ?_
    refine WL.val (Y.move rfl) (by decide) ?_
    refine WL.val (Y.assign rfl) (by decide) ?_
    refine WL.nil ?_
    refine hK31 _ _ ?_; try clear hK31 K31
    refine CW.seq fun K32 hK32 => ?_
    refine CW.region ?_
    refine WL.val (Y.fieldAddr fo_apiCommit3 rfl) (by decide) ?_
    refine WL.val (Y.load1 Tryd.underlying35 rfl hM1.com3 rfl) (by decide) ?_
    refine WL.val (Y.move rfl) (by decide) ?_
    refine WL.val (Y.add rfl rfl ⟨by omega, by omega⟩) (by decide) ?_
    refine WL.call Tryd.func55 rfl rfl rfl ((right_any _ _ _ _ (hoS.ext hL5) ⟨by omega, by omega⟩)) (by simp) ?_; rintro v w6 ⟨rfl, hx6⟩; have hM1 := hM1.ext hx6
    refine WL.val (Y.assign rfl) (by decide) ?_
    refine WL.nil ?_
    refine hK32 _ _ ?_; try clear hK32 K32
    refine CW.seq fun K33 hK33 => ?_
    refine CW.region ?_
    refine WL.val (Y.move rfl) (by decide) ?_
    refine WL.val (Y.neq rfl rfl) (by decide) ?_
    refine WL.nil ?_
    refine hK33 _ _ ?_; try clear hK33 K33
    first | refine CW.condD rfl (fun ht34 => ?_) (fun ht34 => ?_) | refine CW.condND rfl (fun ht34 => ?_) (fun ht34 => ?_) | refine CW.condN rfl (fun ht34 => ?_) (fun ht34 => ?_) | refine CW.cond rfl (fun ht34 => ?_) (fun ht34 => ?_)
    · -- then
      refine CW.seq fun K35 hK35 => ?_
      refine CW.region ?_
      refine WL.val (Y.move rfl) (by decide) ?_
      refine WL.val (Y.assign rfl) (by decide) ?_
      refine WL.nil ?_
      refine hK35 _ _ ?_; try clear hK35 K35
      refine CW.ret ⟨_, rfl, ?_⟩
      exact ⟨by rw [hm5, opsErr_at hrs (by omega) (by assumption)], (hL5.thenExt hx6)⟩
    refine CW.skip ?_
    refine hK30 _ _ ?_; try clear hK30 K30
    refine CW.region ?_
    refine WL.val (Y.add rfl rfl ⟨by omega, by omega⟩) (by decide) ?_
    refine WL.val (Y.move rfl) (by decide) ?_
    refine WL.nil ?_
    refine ⟨x + 1, by omega, (Fr.le.cons rfl (Fr.le.cons rfl (Fr.le.cons rfl Fr.le.nil))), by omega, fun j h => ?_, (hL5.thenExt hx6), hM1⟩
    by_cases hj : j < x
    · exact hrs j hj
    · obtain rfl : j = x := by omega
      simpa using (by assumption : ¬ rightI cm.ops ((j : Int) + 1) ≠ 0)
  refine CW.exit ?_
  refine hK25 _ _ ?_; try clear hK25 K25
  refine CW.seq fun K36 hK36 => ?_
  refine CW.region ?_
  refine WL.val (Y.assign rfl) (by decide) ?_
  refine WL.nil ?_
  refine hK36 _ _ ?_; try clear hK36 K36
  refine CW.ret ⟨_, rfl, ?_⟩
  exact ⟨by rw [hm5, opsErr_end (fun j h => hrs j (by omega))], hL5⟩
end Go.Proofs.YtjbeooimhoilmaaDoor
