/- What is wrong with an operation: commit.Right and the reference's Right, walked; the reference's Name. No condition. -/
import Derived.Test.YtoncdfpohdchgaaDoorNm
set_option linter.unusedSimpArgs false
set_option linter.unusedVariables false
namespace Go.Proofs.YtoncdfpohdchgaaDoor
open Go.RowKit Go.Fw Go.Pl

theorem right_any (lv : Value) (l : List OpD) (i : Int) (w : World) (hl : Sl w opC 37 lv l) (hi : InI64 i) : Calls Tryd.prog 76 #[lv, .int .i64 i] w (Ret fun v w' => v = .int .i64 (rightI l i) ∧ Ext w w') := by
  obtain ⟨A, m, c, rfl, hm, hmc, hcm, hls⟩ := hl
  unfold maxLen at hcm
  refine calls_of_CW 69 [4] [(0, .slice A m c), (1, .int .i64 i)] Tryd.func76 rfl rfl rfl (by simp) args2 ?_
  refine CW.seq fun K1 hK1 => ?_
  refine CW.region ?_   -- region 0
  refine WL.val (Y.assign rfl) (by decide) ?_   -- t4 := assign c(0:i64)
  refine WL.nil ?_
  refine hK1 _ _ ?_; try clear hK1 K1
  refine CW.seq fun K2 hK2 => ?_
  refine CW.seq_test 13 (i < 1 ∨ (m : Int) < i) ?_ ?_
  · refine CW.region ?_
    refine WL.val (Y.move rfl) (by decide) ?_   -- t6 := move t1
    refine WL.val (Y.lss rfl rfl) (by decide) ?_   -- t7 := binOp lss 3 t6 c(1:i64) 3
    refine WL.val (Y.move rfl) (by decide) ?_   -- t8 := move t7
    first | refine WL.casesD (d := 8) rfl (fun hg8 => ?_) (fun hg8 => ?_) | refine WL.casesND (d := 8) rfl (fun hg8 => ?_) (fun hg8 => ?_) | refine WL.cases (d := 8) rfl (fun hg8 => ?_) (fun hg8 => ?_)
    · -- t8 = T
      refine WL.goff rfl rfl (by decide) ?_   -- t9 := move t1 [if 2=false]
      refine WL.goff rfl rfl (by decide) ?_   -- t10 := move t0 [if 2=false]
      refine WL.goff rfl rfl (by decide) ?_   -- t11 := call len(t10) : 74 [if 2=false]
      refine WL.goff rfl rfl (by decide) ?_   -- t12 := binOp gtr 3 t9 t11 3 [if 2=false]
      refine WL.val (Y.pick rfl rfl) (by decide) ?_   -- t13 := pick t8 c(true) t12
      refine WL.nil ⟨⟨_, rfl, ?_⟩, rfl, (by repeat (first | exact Fr.le.refl | refine Fr.le.push rfl ?_))⟩
      first | (simp only [*, Int.natCast_inj, Bool.not_eq_true', decide_eq_false_iff_not, decide_eq_true_eq, not_true_eq_false, not_false_eq_true, true_and, false_and, and_true, and_false, false_or, or_false, true_or, or_true, iff_true, true_iff, iff_false, false_iff]; done) | (simp_all; done) | (refine congrArg Value.bool (Bool.eq_iff_iff.2 ?_); simp_all; done) | (simp_all; omega)
    · -- t8 = F
      refine WL.gval rfl rfl (Y.move rfl) (by decide) ?_   -- t9 := move t1 [if 2=false]
      refine WL.gval rfl rfl (Y.move rfl) (by decide) ?_   -- t10 := move t0 [if 2=false]
      refine WL.gval rfl rfl (Y.len_slice Tryd.underlying74 rfl) (by decide) ?_   -- t11 := call len(t10) : 74 [if 2=false]
      refine WL.gval rfl rfl (Y.gtr rfl rfl) (by decide) ?_   -- t12 := binOp gtr 3 t9 t11 3 [if 2=false]
      refine WL.val (Y.pick rfl rfl) (by decide) ?_   -- t13 := pick t8 c(true) t12
      refine WL.nil ⟨⟨_, rfl, ?_⟩, rfl, (by repeat (first | exact Fr.le.refl | refine Fr.le.push rfl ?_))⟩
      first | (simp only [*, Int.natCast_inj, Bool.not_eq_true', decide_eq_false_iff_not, decide_eq_true_eq, not_true_eq_false, not_false_eq_true, true_and, false_and, and_true, and_false, false_or, or_false, true_or, or_true, iff_true, true_iff, iff_false, false_iff]; done) | (simp_all; done) | (refine congrArg Value.bool (Bool.eq_iff_iff.2 ?_); simp_all; done) | (simp_all; omega)
  first | refine CW.condD rfl (fun ht3 => ?_) (fun ht3 => ?_) | refine CW.condND rfl (fun ht3 => ?_) (fun ht3 => ?_) | refine CW.condN rfl (fun ht3 => ?_) (fun ht3 => ?_) | refine CW.cond rfl (fun ht3 => ?_) (fun ht3 => ?_)
  · -- then
    refine CW.seq fun K4 hK4 => ?_
    refine CW.region ?_   -- region 2
    refine WL.val (Y.assign rfl) (by decide) ?_   -- t4 := assign c(9:i64)
    refine WL.nil ?_
    refine hK4 _ _ ?_; try clear hK4 K4
    refine CW.ret ⟨_, rfl, ?_⟩
    exact ⟨by rw [rightI, if_pos (by rw [hm]; exact ht3)], Chg.refl⟩
  -- else
  refine CW.skip ?_
  refine hK2 _ _ ?_; try clear hK2 K2
  refine CW.seq fun K5 hK5 => ?_
  have hlo : ¬ (i < 1 ∨ (m : Int) < i) := ht3
  obtain ⟨x, hx⟩ : ∃ x, l[(i - 1).toNat]? = some x := ⟨_, List.getElem?_eq_getElem (by omega)⟩
  obtain ⟨ad, rfl, hmx⟩ := hls _ x hx
  have hval : rightI l i = rightX l i x := rightI_of (by rw [hm]; exact hlo) hx
  refine CW.region ?_   -- region 3
  refine WL.val (Y.move rfl) (by decide) ?_   -- t14 := move t0
  refine WL.val (Y.move rfl) (by decide) ?_   -- t15 := move t1
  refine WL.val (Y.sub rfl rfl ⟨by omega, by omega⟩) (by decide) ?_   -- t16 := binOp sub 3 t15 c(1:i64) 3
  refine WL.val (Y.indexAddr Tryd.underlying74 rfl rfl sz0_apiOp (by omega) (by omega)) (by decide) ?_   -- t17 := indexAddr 74 t14 t16
  refine WL.val (Y.load Tryd.underlying132 rfl hmx (sz_apiOp _) rfl) (by decide) ?_   -- t18 := load 132 t17
  refine as_apiOp rfl (by simp) (by decide) fun g5 w1 hx1 hg5 hB5 => ?_   -- alloc 132; store 132 t5 t18
  have hM5 := hB5.mem
  refine WL.nil ?_
  refine hK5 _ _ ?_; try clear hK5 K5
  refine CW.seq fun K6 hK6 => ?_
  refine CW.seq fun K7 hK7 => ?_
  refine CW.region ?_   -- region 4
  refine WL.val (Y.fieldAddr fo_apiOp2 rfl) (by decide) ?_   -- t19 := fieldAddr 132 t5 2
  refine WL.val (Y.load Tryd.underlying130 rfl hM5.op2 (sz_apiRef _) rfl) (by decide) ?_   -- t20 := load 130 t19
  refine WL.call Tryd.func88 rfl rfl rfl ((ref_any _ _)) (by simp) ?_; rintro v w2 ⟨rfl, hx2⟩; have hM5 := hM5.ext hx2   -- t21 := call F88(t20) : 130
  refine WL.val (Y.not rfl) (by decide) ?_   -- t22 := unOp not 4 t21
  refine WL.nil ?_
  refine hK7 _ _ ?_; try clear hK7 K7
  first | refine CW.condD rfl (fun ht8 => ?_) (fun ht8 => ?_) | refine CW.condND rfl (fun ht8 => ?_) (fun ht8 => ?_) | refine CW.condN rfl (fun ht8 => ?_) (fun ht8 => ?_) | refine CW.cond rfl (fun ht8 => ?_) (fun ht8 => ?_)
  · -- then
    refine CW.seq fun K9 hK9 => ?_
    refine CW.region ?_   -- region 5
    refine WL.val (Y.assign rfl) (by decide) ?_   -- t4 := assign c(1:i64)
    refine WL.nil ?_
    refine hK9 _ _ ?_; try clear hK9 K9
    refine CW.ret ⟨_, rfl, ?_⟩
    exact ⟨by rw [hval]; first | (simp_all [rightX]; done) | (simp_all [rightX]; omega), (hx1.thenExt hx2)⟩
  -- else
  refine CW.skip ?_
  refine hK6 _ _ ?_; try clear hK6 K6
  refine CW.seq_join (fun w0 => Ext w2 w0 ∧ (¬ (x.kind = 1 ∧ (x.left = true ∧ rootB x.at_ = true)) ∧ ¬ (x.kind = 2 ∧ (x.left = true ∨ (x.byte.toNat : Int) ≠ 0 ∨ rootB x.at_ = true)) ∧ ¬ (x.kind ≠ 1 ∧ x.kind ≠ 2))) ?_ ?_
  · skip
    refine CW.seq fun K11 hK11 => ?_
    refine CW.region ?_   -- region 6
    refine WL.val (Y.fieldAddr fo_apiOp0 rfl) (by decide) ?_   -- t23 := fieldAddr 132 t5 0
    refine WL.val (Y.load1 Tryd.underlying3 rfl hM5.op0 rfl) (by decide) ?_   -- t24 := load 3 t23
    refine WL.nil ?_
    refine hK11 _ _ ?_; try clear hK11 K11
    refine CW.block ?_   -- block 0
    refine CW.seq fun K12 hK12 => ?_
    refine CW.region ?_   -- region 8
    refine WL.val (Y.eql rfl rfl) (by decide) ?_   -- t26 := binOp eql 3 t24 c(1:i64) 3
    refine WL.val (Y.assign rfl) (by decide) ?_   -- t25 := assign t26
    refine WL.nil ?_
    refine hK12 _ _ ?_; try clear hK12 K12
    first | refine CW.condD rfl (fun ht13 => ?_) (fun ht13 => ?_) | refine CW.condND rfl (fun ht13 => ?_) (fun ht13 => ?_) | refine CW.condN rfl (fun ht13 => ?_) (fun ht13 => ?_) | refine CW.cond rfl (fun ht13 => ?_) (fun ht13 => ?_)
    · -- then
      refine CW.seq_testE 33 (x.left = true ∧ rootB x.at_ = true) ?_ ?_
      · refine CW.region ?_
        refine WL.val (Y.fieldAddr fo_apiOp1 rfl) (by decide) ?_   -- t27 := fieldAddr 132 t5 1
        refine WL.val (Y.load1 Tryd.underlying4 rfl hM5.op1 rfl) (by decide) ?_   -- t28 := load 4 t27
        refine WL.val (Y.move rfl) (by decide) ?_   -- t29 := move t28
        first | refine WL.casesD (d := 29) rfl (fun hg29 => ?_) (fun hg29 => ?_) | refine WL.casesND (d := 29) rfl (fun hg29 => ?_) (fun hg29 => ?_) | refine WL.cases (d := 29) rfl (fun hg29 => ?_) (fun hg29 => ?_)
        · -- t29 = T
          refine WL.gval rfl rfl (Y.fieldAddr fo_apiOp2 rfl) (by decide) ?_   -- t30 := fieldAddr 132 t5 2 [if 2=true]
          refine WL.gval rfl rfl (Y.load Tryd.underlying130 rfl hM5.op2 (sz_apiRef _) rfl) (by decide) ?_   -- t31 := load 130 t30 [if 2=true]
          refine WL.gcall rfl rfl Tryd.func89 rfl rfl rfl ((root_any _ _)) (by decide) ?_; rintro v w3 ⟨rfl, hx3⟩; have hM5 := hM5.ext hx3   -- t32 := call F89(t31) : 130 [if 2=true]
          refine WL.val (Y.pick rfl rfl) (by decide) ?_   -- t33 := pick t29 t32 c(false)
          refine WL.nil ⟨⟨_, rfl, ?_⟩, hx3, (by repeat (first | exact Fr.le.refl | refine Fr.le.push rfl ?_))⟩
          first | (simp only [*, Int.natCast_inj, Bool.not_eq_true', decide_eq_false_iff_not, decide_eq_true_eq, not_true_eq_false, not_false_eq_true, true_and, false_and, and_true, and_false, false_or, or_false, true_or, or_true, iff_true, true_iff, iff_false, false_iff]; done) | (simp_all; done) | (refine congrArg Value.bool (Bool.eq_iff_iff.2 ?_); simp_all; done) | (simp_all; omega)
        · -- t29 = F
          refine WL.goff rfl rfl (by decide) ?_   -- t30 := fieldAddr 132 t5 2 [if 2=true]
          refine WL.goff rfl rfl (by decide) ?_   -- t31 := load 130 t30 [if 2=true]
          refine WL.goff rfl rfl (by decide) ?_   -- t32 := call F89(t31) : 130 [if 2=true]
          refine WL.val (Y.pick rfl rfl) (by decide) ?_   -- t33 := pick t29 t32 c(false)
          refine WL.nil ⟨⟨_, rfl, ?_⟩, Chg.refl, (by repeat (first | exact Fr.le.refl | refine Fr.le.push rfl ?_))⟩
          first | (simp only [*, Int.natCast_inj, Bool.not_eq_true', decide_eq_false_iff_not, decide_eq_true_eq, not_true_eq_false, not_false_eq_true, true_and, false_and, and_true, and_false, false_or, or_false, true_or, or_true, iff_true, true_iff, iff_false, false_iff]; done) | (simp_all; done) | (refine congrArg Value.bool (Bool.eq_iff_iff.2 ?_); simp_all; done) | (simp_all; omega)
      intro w4 hx4; have hM5 := hM5.ext hx4
      first | refine CW.condD rfl (fun ht14 => ?_) (fun ht14 => ?_) | refine CW.condND rfl (fun ht14 => ?_) (fun ht14 => ?_) | refine CW.condN rfl (fun ht14 => ?_) (fun ht14 => ?_) | refine CW.cond rfl (fun ht14 => ?_) (fun ht14 => ?_)
      · -- then
        refine CW.seq fun K15 hK15 => ?_
        refine CW.region ?_   -- region 10
        refine WL.val (Y.assign rfl) (by decide) ?_   -- t4 := assign c(1:i64)
        refine WL.nil ?_
        refine hK15 _ _ ?_; try clear hK15 K15
        refine CW.ret ⟨_, rfl, ?_⟩
        exact ⟨by rw [hval]; first | (simp_all [rightX]; done) | (simp_all [rightX]; omega), ((hx1.thenExt hx2).thenExt hx4)⟩
      -- else
      refine CW.skip ?_
      exact ⟨(by repeat (first | exact Fr.le.refl | refine Fr.le.push rfl ?_)), hx4, (by first | (simp_all; done) | (simp_all; omega))⟩
    -- else
    refine CW.seq fun K16 hK16 => ?_
    refine CW.region ?_   -- region 11
    refine WL.val (Y.eql rfl rfl) (by decide) ?_   -- t35 := binOp eql 3 t24 c(2:i64) 3
    refine WL.val (Y.assign rfl) (by decide) ?_   -- t34 := assign t35
    refine WL.nil ?_
    refine hK16 _ _ ?_; try clear hK16 K16
    first | refine CW.condD rfl (fun ht17 => ?_) (fun ht17 => ?_) | refine CW.condND rfl (fun ht17 => ?_) (fun ht17 => ?_) | refine CW.condN rfl (fun ht17 => ?_) (fun ht17 => ?_) | refine CW.cond rfl (fun ht17 => ?_) (fun ht17 => ?_)
    · -- then
      refine CW.seq_testE 47 (x.left = true ∨ (x.byte.toNat : Int) ≠ 0 ∨ rootB x.at_ = true) ?_ ?_
      · refine CW.region ?_
        refine WL.val (Y.fieldAddr fo_apiOp1 rfl) (by decide) ?_   -- t36 := fieldAddr 132 t5 1
        refine WL.val (Y.load1 Tryd.underlying4 rfl hM5.op1 rfl) (by decide) ?_   -- t37 := load 4 t36
        refine WL.val (Y.move rfl) (by decide) ?_   -- t38 := move t37
        first | refine WL.casesD (d := 38) rfl (fun hg38 => ?_) (fun hg38 => ?_) | refine WL.casesND (d := 38) rfl (fun hg38 => ?_) (fun hg38 => ?_) | refine WL.cases (d := 38) rfl (fun hg38 => ?_) (fun hg38 => ?_)
        · -- t38 = T
          refine WL.goff rfl rfl (by decide) ?_   -- t39 := fieldAddr 132 t5 3 [if 2=false]
          refine WL.goff rfl rfl (by decide) ?_   -- t40 := load 5 t39 [if 2=false]
          refine WL.goff rfl rfl (by decide) ?_   -- t41 := binOp neq 5 t40 c(0:u8) 5 [if 2=false]
          refine WL.val (Y.pick rfl rfl) (by decide) ?_   -- t42 := pick t38 c(true) t41
          refine WL.val (Y.move rfl) (by decide) ?_   -- t43 := move t42
          refine WL.goff rfl rfl (by decide) ?_   -- t44 := fieldAddr 132 t5 2 [if 7=false]
          refine WL.goff rfl rfl (by decide) ?_   -- t45 := load 130 t44 [if 7=false]
          refine WL.goff rfl rfl (by decide) ?_   -- t46 := call F89(t45) : 130 [if 7=false]
          refine WL.val (Y.pick rfl rfl) (by decide) ?_   -- t47 := pick t43 c(true) t46
          refine WL.nil ⟨⟨_, rfl, ?_⟩, Chg.refl, (by repeat (first | exact Fr.le.refl | refine Fr.le.push rfl ?_))⟩
          first | (simp only [*, Int.natCast_inj, Bool.not_eq_true', decide_eq_false_iff_not, decide_eq_true_eq, not_true_eq_false, not_false_eq_true, true_and, false_and, and_true, and_false, false_or, or_false, true_or, or_true, iff_true, true_iff, iff_false, false_iff]; done) | (simp_all; done) | (refine congrArg Value.bool (Bool.eq_iff_iff.2 ?_); simp_all; done) | (simp_all; omega)
        · -- t38 = F
          refine WL.gval rfl rfl (Y.fieldAddr fo_apiOp3 rfl) (by decide) ?_   -- t39 := fieldAddr 132 t5 3 [if 2=false]
          refine WL.gval rfl rfl (Y.load1 Tryd.underlying5 rfl hM5.op3 rfl) (by decide) ?_   -- t40 := load 5 t39 [if 2=false]
          refine WL.gval rfl rfl (Y.neq rfl rfl) (by decide) ?_   -- t41 := binOp neq 5 t40 c(0:u8) 5 [if 2=false]
          refine WL.val (Y.pick rfl rfl) (by decide) ?_   -- t42 := pick t38 c(true) t41
          refine WL.val (Y.move rfl) (by decide) ?_   -- t43 := move t42
          first | refine WL.casesD (d := 43) rfl (fun hg43 => ?_) (fun hg43 => ?_) | refine WL.casesND (d := 43) rfl (fun hg43 => ?_) (fun hg43 => ?_) | refine WL.cases (d := 43) rfl (fun hg43 => ?_) (fun hg43 => ?_)
          · -- t43 = T
            refine WL.goff rfl rfl (by decide) ?_   -- t44 := fieldAddr 132 t5 2 [if 7=false]
            refine WL.goff rfl rfl (by decide) ?_   -- t45 := load 130 t44 [if 7=false]
            refine WL.goff rfl rfl (by decide) ?_   -- t46 := call F89(t45) : 130 [if 7=false]
            refine WL.val (Y.pick rfl rfl) (by decide) ?_   -- t47 := pick t43 c(true) t46
            refine WL.nil ⟨⟨_, rfl, ?_⟩, Chg.refl, (by repeat (first | exact Fr.le.refl | refine Fr.le.push rfl ?_))⟩
            first | (simp only [*, Int.natCast_inj, Bool.not_eq_true', decide_eq_false_iff_not, decide_eq_true_eq, not_true_eq_false, not_false_eq_true, true_and, false_and, and_true, and_false, false_or, or_false, true_or, or_true, iff_true, true_iff, iff_false, false_iff]; done) | (simp_all; done) | (refine congrArg Value.bool (Bool.eq_iff_iff.2 ?_); simp_all; done) | (simp_all; omega)
          · -- t43 = F
            refine WL.gval rfl rfl (Y.fieldAddr fo_apiOp2 rfl) (by decide) ?_   -- t44 := fieldAddr 132 t5 2 [if 7=false]
            refine WL.gval rfl rfl (Y.load Tryd.underlying130 rfl hM5.op2 (sz_apiRef _) rfl) (by decide) ?_   -- t45 := load 130 t44 [if 7=false]
            refine WL.gcall rfl rfl Tryd.func89 rfl rfl rfl ((root_any _ _)) (by decide) ?_; rintro v w5 ⟨rfl, hx5⟩; have hM5 := hM5.ext hx5   -- t46 := call F89(t45) : 130 [if 7=false]
            refine WL.val (Y.pick rfl rfl) (by decide) ?_   -- t47 := pick t43 c(true) t46
            refine WL.nil ⟨⟨_, rfl, ?_⟩, hx5, (by repeat (first | exact Fr.le.refl | refine Fr.le.push rfl ?_))⟩
            first | (simp only [*, Int.natCast_inj, Bool.not_eq_true', decide_eq_false_iff_not, decide_eq_true_eq, not_true_eq_false, not_false_eq_true, true_and, false_and, and_true, and_false, false_or, or_false, true_or, or_true, iff_true, true_iff, iff_false, false_iff]; done) | (simp_all; done) | (refine congrArg Value.bool (Bool.eq_iff_iff.2 ?_); simp_all; done) | (simp_all; omega)
      intro w6 hx6; have hM5 := hM5.ext hx6
      first | refine CW.condD rfl (fun ht18 => ?_) (fun ht18 => ?_) | refine CW.condND rfl (fun ht18 => ?_) (fun ht18 => ?_) | refine CW.condN rfl (fun ht18 => ?_) (fun ht18 => ?_) | refine CW.cond rfl (fun ht18 => ?_) (fun ht18 => ?_)
      · -- then
        refine CW.seq fun K19 hK19 => ?_
        refine CW.region ?_   -- region 13
        refine WL.val (Y.assign rfl) (by decide) ?_   -- t4 := assign c(1:i64)
        refine WL.nil ?_
        refine hK19 _ _ ?_; try clear hK19 K19
        refine CW.ret ⟨_, rfl, ?_⟩
        exact ⟨by rw [hval]; first | (simp_all [rightX]; done) | (simp_all [rightX]; omega), ((hx1.thenExt hx2).thenExt hx6)⟩
      -- else
      refine CW.skip ?_
      exact ⟨(by repeat (first | exact Fr.le.refl | refine Fr.le.push rfl ?_)), hx6, (by first | (simp_all; done) | (simp_all; omega))⟩
    -- else
    refine CW.seq fun K20 hK20 => ?_
    refine CW.region ?_   -- region 7
    refine WL.val (Y.assign rfl) (by decide) ?_   -- t4 := assign c(1:i64)
    refine WL.nil ?_
    refine hK20 _ _ ?_; try clear hK20 K20
    refine CW.ret ⟨_, rfl, ?_⟩
    exact ⟨by rw [hval]; first | (simp_all [rightX]; done) | (simp_all [rightX]; omega), (hx1.thenExt hx2)⟩
  rintro w7 ⟨hx7, hj7⟩; have hM5 := hM5.ext hx7
  refine CW.seq fun K21 hK21 => ?_
  refine CW.seq_test 68 (x.at_.own = true ∧ (i ≤ x.at_.n ∨ kindAt l (x.at_.n - 1).toNat ≠ 1)) ?_ ?_
  · refine CW.region ?_
    refine WL.val (Y.fieldAddr fo_apiOp2 rfl) (by decide) ?_   -- t48 := fieldAddr 132 t5 2
    refine WL.val (Y.fieldAddr fo_apiRef0 rfl) (by decide) ?_   -- t49 := fieldAddr 130 t48 0
    refine WL.val (Y.load1 Tryd.underlying4 rfl hM5.op2.ref0 rfl) (by decide) ?_   -- t50 := load 4 t49
    refine WL.val (Y.move rfl) (by decide) ?_   -- t51 := move t50
    first | refine WL.casesD (d := 51) rfl (fun hg51 => ?_) (fun hg51 => ?_) | refine WL.casesND (d := 51) rfl (fun hg51 => ?_) (fun hg51 => ?_) | refine WL.cases (d := 51) rfl (fun hg51 => ?_) (fun hg51 => ?_)
    · -- t51 = T
      refine WL.gval rfl rfl (Y.fieldAddr fo_apiOp2 rfl) (by decide) ?_   -- t52 := fieldAddr 132 t5 2 [if 3=true]
      refine WL.gval rfl rfl (Y.fieldAddr fo_apiRef2 rfl) (by decide) ?_   -- t53 := fieldAddr 130 t52 2 [if 3=true]
      refine WL.gval rfl rfl (Y.load1 Tryd.underlying3 rfl hM5.op2.ref2 rfl) (by decide) ?_   -- t54 := load 3 t53 [if 3=true]
      refine WL.gval rfl rfl (Y.move rfl) (by decide) ?_   -- t55 := move t1 [if 3=true]
      refine WL.gval rfl rfl (Y.geq rfl rfl) (by decide) ?_   -- t56 := binOp geq 3 t54 t55 3 [if 3=true]
      refine WL.gval rfl rfl (Y.move rfl) (by decide) ?_   -- t57 := move t56 [if 3=true]
      first | refine WL.casesD (d := 57) rfl (fun hg57 => ?_) (fun hg57 => ?_) | refine WL.casesND (d := 57) rfl (fun hg57 => ?_) (fun hg57 => ?_) | refine WL.cases (d := 57) rfl (fun hg57 => ?_) (fun hg57 => ?_)
      · -- t57 = T
        refine WL.goff rfl rfl (by decide) ?_   -- t58 := move t0 [if 9=false]
        refine WL.goff rfl rfl (by decide) ?_   -- t59 := fieldAddr 132 t5 2 [if 9=false]
        refine WL.goff rfl rfl (by decide) ?_   -- t60 := fieldAddr 130 t59 2 [if 9=false]
        refine WL.goff rfl rfl (by decide) ?_   -- t61 := load 3 t60 [if 9=false]
        refine WL.goff rfl rfl (by decide) ?_   -- t62 := binOp sub 3 t61 c(1:i64) 3 [if 9=false]
        refine WL.goff rfl rfl (by decide) ?_   -- t63 := indexAddr 74 t58 t62 [if 9=false]
        refine WL.goff rfl rfl (by decide) ?_   -- t64 := fieldAddr 132 t63 0 [if 9=false]
        refine WL.goff rfl rfl (by decide) ?_   -- t65 := load 3 t64 [if 9=false]
        refine WL.goff rfl rfl (by decide) ?_   -- t66 := binOp neq 3 t65 c(1:i64) 3 [if 9=false]
        refine WL.gval rfl rfl (Y.pick rfl rfl) (by decide) ?_   -- t67 := pick t57 c(true) t66 [if 3=true]
        refine WL.val (Y.pick rfl rfl) (by decide) ?_   -- t68 := pick t51 t67 c(false)
        refine WL.nil ⟨⟨_, rfl, ?_⟩, rfl, (by repeat (first | exact Fr.le.refl | refine Fr.le.push rfl ?_))⟩
        first | (simp only [*, Int.natCast_inj, Bool.not_eq_true', decide_eq_false_iff_not, decide_eq_true_eq, not_true_eq_false, not_false_eq_true, true_and, false_and, and_true, and_false, false_or, or_false, true_or, or_true, iff_true, true_iff, iff_false, false_iff]; done) | (simp_all; done) | (refine congrArg Value.bool (Bool.eq_iff_iff.2 ?_); simp_all; done) | (simp_all; omega)
      · -- t57 = F
        refine WL.gval rfl rfl (Y.move rfl) (by decide) ?_   -- t58 := move t0 [if 9=false]
        refine WL.gval rfl rfl (Y.fieldAddr fo_apiOp2 rfl) (by decide) ?_   -- t59 := fieldAddr 132 t5 2 [if 9=false]
        refine WL.gval rfl rfl (Y.fieldAddr fo_apiRef2 rfl) (by decide) ?_   -- t60 := fieldAddr 130 t59 2 [if 9=false]
        refine WL.gval rfl rfl (Y.load1 Tryd.underlying3 rfl hM5.op2.ref2 rfl) (by decide) ?_   -- t61 := load 3 t60 [if 9=false]
        have hn : 0 < x.at_.n := by first | (have h1 := (rk1 x.at_).1 (by assumption); simp [refB, h1.1] at h1; exact h1.2) | (simp_all [refB]; done)
        obtain ⟨y, hy⟩ : ∃ y, l[(x.at_.n - 1).toNat]? = some y := ⟨_, List.getElem?_eq_getElem (by omega)⟩
        obtain ⟨ad', e, hmy⟩ := hls _ y hy
        injection e with e; subst e
        have hk : kindAt l (x.at_.n - 1).toNat = y.kind := by rw [kindAt, hy]; rfl
        refine WL.gval rfl rfl (Y.sub rfl rfl ⟨by omega, by omega⟩) (by decide) ?_   -- t62 := binOp sub 3 t61 c(1:i64) 3 [if 9=false]
        refine WL.gval rfl rfl (Y.indexAddr Tryd.underlying74 rfl rfl sz0_apiOp (by omega) (by omega)) (by decide) ?_   -- t63 := indexAddr 74 t58 t62 [if 9=false]
        refine WL.gval rfl rfl (Y.fieldAddr fo_apiOp0 rfl) (by decide) ?_   -- t64 := fieldAddr 132 t63 0 [if 9=false]
        refine WL.gval rfl rfl (Y.load1 Tryd.underlying3 rfl (hmy.ext ((hx1.thenExt hx2).thenExt hx7)).op0 rfl) (by decide) ?_   -- t65 := load 3 t64 [if 9=false]
        refine WL.gval rfl rfl (Y.neq rfl rfl) (by decide) ?_   -- t66 := binOp neq 3 t65 c(1:i64) 3 [if 9=false]
        refine WL.gval rfl rfl (Y.pick rfl rfl) (by decide) ?_   -- t67 := pick t57 c(true) t66 [if 3=true]
        refine WL.val (Y.pick rfl rfl) (by decide) ?_   -- t68 := pick t51 t67 c(false)
        refine WL.nil ⟨⟨_, rfl, ?_⟩, rfl, (by repeat (first | exact Fr.le.refl | refine Fr.le.push rfl ?_))⟩
        first | (simp only [*, Int.natCast_inj, Bool.not_eq_true', decide_eq_false_iff_not, decide_eq_true_eq, not_true_eq_false, not_false_eq_true, true_and, false_and, and_true, and_false, false_or, or_false, true_or, or_true, iff_true, true_iff, iff_false, false_iff]; done) | (simp_all; done) | (refine congrArg Value.bool (Bool.eq_iff_iff.2 ?_); simp_all; done) | (simp_all; omega)
    · -- t51 = F
      refine WL.goff rfl rfl (by decide) ?_   -- t52 := fieldAddr 132 t5 2 [if 3=true]
      refine WL.goff rfl rfl (by decide) ?_   -- t53 := fieldAddr 130 t52 2 [if 3=true]
      refine WL.goff rfl rfl (by decide) ?_   -- t54 := load 3 t53 [if 3=true]
      refine WL.goff rfl rfl (by decide) ?_   -- t55 := move t1 [if 3=true]
      refine WL.goff rfl rfl (by decide) ?_   -- t56 := binOp geq 3 t54 t55 3 [if 3=true]
      refine WL.goff rfl rfl (by decide) ?_   -- t57 := move t56 [if 3=true]
      refine WL.goffU rfl rfl (by decide) ?_   -- t58 := move t0 [if 9=false]
      refine WL.goffU rfl rfl (by decide) ?_   -- t59 := fieldAddr 132 t5 2 [if 9=false]
      refine WL.goffU rfl rfl (by decide) ?_   -- t60 := fieldAddr 130 t59 2 [if 9=false]
      refine WL.goffU rfl rfl (by decide) ?_   -- t61 := load 3 t60 [if 9=false]
      refine WL.goffU rfl rfl (by decide) ?_   -- t62 := binOp sub 3 t61 c(1:i64) 3 [if 9=false]
      refine WL.goffU rfl rfl (by decide) ?_   -- t63 := indexAddr 74 t58 t62 [if 9=false]
      refine WL.goffU rfl rfl (by decide) ?_   -- t64 := fieldAddr 132 t63 0 [if 9=false]
      refine WL.goffU rfl rfl (by decide) ?_   -- t65 := load 3 t64 [if 9=false]
      refine WL.goffU rfl rfl (by decide) ?_   -- t66 := binOp neq 3 t65 c(1:i64) 3 [if 9=false]
      refine WL.goff rfl rfl (by decide) ?_   -- t67 := pick t57 c(true) t66 [if 3=true]
      refine WL.val (Y.pick rfl rfl) (by decide) ?_   -- t68 := pick t51 t67 c(false)
      refine WL.nil ⟨⟨_, rfl, ?_⟩, rfl, (by repeat (first | exact Fr.le.refl | refine Fr.le.push rfl ?_))⟩
      first | (simp only [*, Int.natCast_inj, Bool.not_eq_true', decide_eq_false_iff_not, decide_eq_true_eq, not_true_eq_false, not_false_eq_true, true_and, false_and, and_true, and_false, false_or, or_false, true_or, or_true, iff_true, true_iff, iff_false, false_iff]; done) | (simp_all; done) | (refine congrArg Value.bool (Bool.eq_iff_iff.2 ?_); simp_all; done) | (simp_all; omega)
  first | refine CW.condD rfl (fun ht22 => ?_) (fun ht22 => ?_) | refine CW.condND rfl (fun ht22 => ?_) (fun ht22 => ?_) | refine CW.condN rfl (fun ht22 => ?_) (fun ht22 => ?_) | refine CW.cond rfl (fun ht22 => ?_) (fun ht22 => ?_)
  · -- then
    refine CW.seq fun K23 hK23 => ?_
    refine CW.region ?_   -- region 15
    refine WL.val (Y.assign rfl) (by decide) ?_   -- t4 := assign c(5:i64)
    refine WL.nil ?_
    refine hK23 _ _ ?_; try clear hK23 K23
    refine CW.ret ⟨_, rfl, ?_⟩
    exact ⟨by rw [hval, rightX, if_neg (by simp [ht8]), if_neg hj7.1, if_neg hj7.2.1, if_neg hj7.2.2, if_pos (by assumption)], ((hx1.thenExt hx2).thenExt hx7)⟩
  -- else
  refine CW.skip ?_
  refine hK21 _ _ ?_; try clear hK21 K21
  refine CW.seq fun K24 hK24 => ?_
  refine CW.region ?_   -- region 16
  refine WL.val (Y.assign rfl) (by decide) ?_   -- t4 := assign c(0:i64)
  refine WL.nil ?_
  refine hK24 _ _ ?_; try clear hK24 K24
  refine CW.ret ⟨_, rfl, ?_⟩
  exact ⟨by rw [hval, rightX, if_neg (by simp [ht8]), if_neg hj7.1, if_neg hj7.2.1, if_neg hj7.2.2, if_neg (by assumption)], ((hx1.thenExt hx2).thenExt hx7)⟩
end Go.Proofs.YtoncdfpohdchgaaDoor
