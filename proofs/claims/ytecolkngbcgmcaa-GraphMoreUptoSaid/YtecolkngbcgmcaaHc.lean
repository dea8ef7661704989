/- GraphChecks, GraphTops, GraphReaches: the laws' functions, walked. No condition. -/
import Derived.Test.YtecolkngbcgmcaaHb
set_option linter.unusedSimpArgs false
set_option linter.unusedVariables false
namespace Go.Proofs.Ytecolkngbcgmcaa
open Go.RowKit Go.Fw Go.Pl Go.Sort
abbrev True_ (w : World) (v : Value) (w' : World) : Prop := v = .bool true ∧ Ext w w'
theorem wrongQ_ok {l : List Nd} {ids : List Dig} (h : wrongQ l ids = 0) : (readE l).2 = 0 := by
  unfold wrongQ at h
  split at h
  · rename_i h1; exact absurd h h1
  · rename_i h1; exact Decidable.not_not.1 h1
theorem tops_eq {l : List Nd} {ids : List Dig} (h : wrongQ l ids = 0) : headsR l (srtD ids) = headsL l (mark0 l ids) := by
  have hm : ∀ d, d ∈ srtD ids ↔ d ∈ ids := fun d => by rw [srtD, srt_mem]; simp
  have hin := wrongQ_in h
  exact headsR_eq (wrongQ_ok h) (srt_up _ _ List.Pairwise.nil) (fun d hd => hin d ((hm d).1 hd)) (fun d hd => by rw [mark0_bit hd hin]; exact (hm d).symm)

theorem graphChecks_any (u : Value) (l : List NdV) (w : World) (hl : Nds w u l) : Calls Try.prog 5 #[u] w (Ret (True_ w)) := by
  refine calls_of_CW 28 [2] [(0, u)] Try.func5 rfl rfl rfl (by simp) args1 ?_
  have hE : Ext w w := Chg.refl
  refine CW.seq fun K1 hK1 => ?_
  refine CW.region ?_   -- region 0
  refine WL.val (Y.assign rfl) (by decide) ?_   -- t2 := assign c(false)
  refine WL.nil ?_
  refine hK1 _ _ ?_; try clear hK1 K1
  refine CW.seq fun K2 hK2 => ?_
  refine CW.region ?_   -- region 1
  refine WL.val (Y.move rfl) (by decide) ?_   -- t8 := move t0
  refine WL.call Try.func20 rfl rfl rfl (gcheck_any _ l _ hl) (by simp) ?_; rintro v w1 ⟨rfl, hx1⟩; have hz1 := hx1.size; have hE := hE.thenExt hx1   -- t9 := call F20(t8) : 22
  refine WL.val (Y.move rfl) (by decide) ?_   -- t7 := move t9
  refine WL.val (Y.extract rfl rfl) (by decide) ?_   -- t10 := extract t7 0
  refine WL.val (Y.extract rfl rfl) (by decide) ?_   -- t11 := extract t7 1
  refine WL.val (Y.assign rfl) (by decide) ?_   -- t3 := assign t10
  refine WL.val (Y.assign rfl) (by decide) ?_   -- t4 := assign t11
  refine WL.nil ?_
  refine hK2 _ _ ?_; try clear hK2 K2
  refine CW.seq fun K3 hK3 => ?_
  refine CW.region ?_   -- region 2
  refine WL.val (Y.move rfl) (by decide) ?_   -- t13 := move t0
  refine WL.call Try.func21 rfl rfl rfl (rCheck_any _ l _ (hl.ext hx1)) (by simp) ?_; rintro v w2 ⟨rfl, hx2⟩; have hz2 := hx2.size; have hE := hE.thenExt hx2   -- t14 := call F21(t13) : 22
  refine WL.val (Y.move rfl) (by decide) ?_   -- t12 := move t14
  refine WL.val (Y.extract rfl rfl) (by decide) ?_   -- t15 := extract t12 0
  refine WL.val (Y.extract rfl rfl) (by decide) ?_   -- t16 := extract t12 1
  refine WL.val (Y.assign rfl) (by decide) ?_   -- t5 := assign t15
  refine WL.val (Y.assign rfl) (by decide) ?_   -- t6 := assign t16
  refine WL.nil ?_
  refine hK3 _ _ ?_; try clear hK3 K3
  refine CW.seq fun K4 hK4 => ?_
  refine CW.region ?_   -- region 3
  refine WL.val (Y.move rfl) (by decide) ?_   -- t17 := move t3
  refine WL.val (Y.move rfl) (by decide) ?_   -- t18 := move t5
  refine WL.val (Y.eql rfl rfl) (by decide) ?_   -- t19 := binOp eql 3 t17 t18 3
  refine WL.val (Y.move rfl) (by decide) ?_   -- t20 := move t19
  refine WL.know (d := 20) (u := .bool true) rfl (by rw [decide_eq_true rfl]) ?_
  refine WL.gval rfl rfl (Y.move rfl) (by decide) ?_   -- t21 := move t4 [if 3=true]
  refine WL.gval rfl rfl (Y.move rfl) (by decide) ?_   -- t22 := move t6 [if 3=true]
  refine WL.gval rfl rfl (Y.eql rfl rfl) (by decide) ?_   -- t23 := binOp eql 3 t21 t22 3 [if 3=true]
  refine WL.val (Y.pick rfl rfl) (by decide) ?_   -- t24 := pick t20 t23 c(false)
  refine WL.val (Y.move rfl) (by decide) ?_   -- t25 := move t24
  refine WL.know (d := 25) (u := .bool true) rfl (by rw [decide_eq_true rfl]) ?_
  refine WL.gcall rfl rfl Try.func18 rfl rfl rfl (alive_any _) (by decide) ?_; rintro v w3 ⟨rfl, hx3⟩; have hz3 := hx3.size; have hE := hE.thenExt hx3   -- t26 := call F18() :  [if 8=true]
  refine WL.val (Y.pick rfl rfl) (by decide) ?_   -- t27 := pick t25 t26 c(false)
  refine WL.val (Y.assign rfl) (by decide) ?_   -- t2 := assign t27
  refine WL.nil ?_
  refine hK4 _ _ ?_; try clear hK4 K4
  refine CW.ret ⟨_, rfl, ?_⟩
  exact ⟨rfl, hE⟩
theorem graphTops_any (u v0 : Value) (l : List NdV) (ids : List Dig) (w : World) (hl : Nds w u l) (hd : Sl w digC 32 v0 ids) (hp : ids.length * 32 ≤ 140737488351232) : Calls Try.prog 3 #[u, v0] w (Ret (True_ w)) := by
  refine calls_of_CW 34 [4] [(0, u), (1, v0)] Try.func3 rfl rfl rfl (by simp) args2 ?_
  have hE : Ext w w := Chg.refl
  refine CW.seq fun K1 hK1 => ?_
  refine CW.region ?_   -- region 0
  refine WL.val (Y.assign rfl) (by decide) ?_   -- t4 := assign c(false)
  refine WL.nil ?_
  refine hK1 _ _ ?_; try clear hK1 K1
  refine CW.seq fun K2 hK2 => ?_
  refine CW.region ?_   -- region 1
  refine WL.val (Y.move rfl) (by decide) ?_   -- t10 := move t0
  refine WL.val (Y.move rfl) (by decide) ?_   -- t11 := move t1
  refine WL.call Try.func14 rfl rfl rfl (gHeads_any _ _ l ids _ hl hd) (by simp) ?_; rintro v12 w1 hR1   -- t12 := call F14(t10, t11) : 22,23
  obtain ⟨hv, rfl, hO1, hf1, hx1⟩ := hR1
  have hz1 := hx1.size
  have hE := hE.thenExt hx1
  have hS := hO1.sl digC_length (by decide)
  refine WL.val (Y.move rfl) (by decide) ?_   -- t9 := move t12
  refine WL.val (Y.extract rfl rfl) (by decide) ?_   -- t13 := extract t9 0
  refine WL.val (Y.extract rfl rfl) (by decide) ?_   -- t14 := extract t9 1
  refine WL.val (Y.assign rfl) (by decide) ?_   -- t5 := assign t13
  refine WL.val (Y.assign rfl) (by decide) ?_   -- t6 := assign t14
  refine WL.nil ?_
  refine hK2 _ _ ?_; try clear hK2 K2
  refine CW.seq fun K3 hK3 => ?_
  refine CW.region ?_   -- region 2
  refine WL.val (Y.move rfl) (by decide) ?_   -- t15 := move t0
  refine WL.val (Y.move rfl) (by decide) ?_   -- t16 := move t1
  refine WL.call Try.func15 rfl rfl rfl (rWrong_any _ _ l ids _ (hl.ext hE) (hd.ext hE)) (by simp) ?_; rintro v w2 ⟨rfl, hx2⟩; have hz2 := hx2.size; have hE := hE.thenExt hx2   -- t17 := call F15(t15, t16) : 22,23
  refine WL.val (Y.assign rfl) (by decide) ?_   -- t7 := assign t17
  refine WL.nil ?_
  refine hK3 _ _ ?_; try clear hK3 K3
  refine CW.seq fun K4 hK4 => ?_
  refine CW.region ?_   -- region 3
  refine WL.val (Y.assign rfl) (by decide) ?_   -- t8 := assign c(nilslice)
  refine WL.nil ?_
  refine hK4 _ _ ?_; try clear hK4 K4
  refine CW.seq_to (X := Value) (fun x => [(5, hv), (6, .int .i64 (wrongQ (ndsL l) ids)), (7, .int .i64 (wrongQ (ndsL l) ids)), (8, x)]) (fun x w0 => Sl w0 digC 32 x (if wrongQ (ndsL l) ids = 0 then headsL (ndsL l) (mark0 (ndsL l) ids) else []) ∧ Ext w2 w0) ?_ ?_
  · skip
    refine CW.seq fun K6 hK6 => ?_
    refine CW.region ?_   -- region 4
    refine WL.val (Y.move rfl) (by decide) ?_   -- t18 := move t7
    refine WL.val (Y.eql rfl rfl) (by decide) ?_   -- t19 := binOp eql 3 t18 c(0:i64) 3
    refine WL.nil ?_
    refine hK6 _ _ ?_; try clear hK6 K6
    first | refine CW.condD rfl (fun ht7 => ?_) (fun ht7 => ?_) | refine CW.condND rfl (fun ht7 => ?_) (fun ht7 => ?_) | refine CW.condN rfl (fun ht7 => ?_) (fun ht7 => ?_) | refine CW.cond rfl (fun ht7 => ?_) (fun ht7 => ?_)
    · -- then
      refine CW.region ?_   -- region 5
      refine WL.val (Y.move rfl) (by decide) ?_   -- t20 := move t0
      refine WL.val (Y.move rfl) (by decide) ?_   -- t21 := move t1
      refine WL.call Try.func16 rfl rfl rfl (rHeads_any _ _ l ids _ (hl.ext hE) (wrongQ_ok (by assumption)) (hd.ext hE) (wrongQ_in (by assumption)) hp) (by simp) ?_; rintro v22 w3 hR3   -- t22 := call F16(t20, t21) : 22,23
      obtain ⟨hO3, hf3, hx3⟩ := hR3
      have hz3 := hx3.size
      have hE := hE.thenExt hx3
      have hq : wrongQ (ndsL l) ids = 0 := by assumption
      rw [tops_eq hq] at hO3
      refine WL.val (Y.assign rfl) (by decide) ?_   -- t8 := assign t22
      refine WL.nil ?_
      exact ⟨_, (by repeat (first | exact Fr.le.nil | refine Fr.le.cons rfl ?_)), by rw [if_pos hq]; exact hO3.sl digC_length (by decide), hx3⟩
    -- else
    refine CW.skip ?_
    exact ⟨_, (by repeat (first | exact Fr.le.nil | refine Fr.le.cons rfl ?_)), by rw [if_neg (by assumption)]; exact Sl.nil, Chg.refl⟩
  rintro u w4 hj4
  obtain ⟨hS2, hx4⟩ := hj4
  have hz4 := hx4.size
  have hE := hE.thenExt hx4
  refine CW.seq fun K8 hK8 => ?_
  refine CW.region ?_   -- region 6
  refine WL.val (Y.move rfl) (by decide) ?_   -- t23 := move t5
  refine WL.val (Y.move rfl) (by decide) ?_   -- t24 := move t8
  refine WL.call Try.func17 rfl rfl rfl (rSameD_any _ _ (if wrongQ (ndsL l) ids = 0 then headsL (ndsL l) (mark0 (ndsL l) ids) else []) (if wrongQ (ndsL l) ids = 0 then headsL (ndsL l) (mark0 (ndsL l) ids) else []) _ ((hS.ext hx2).ext hx4) hS2) (by simp) ?_; rintro v w5 ⟨rfl, hx5⟩; have hz5 := hx5.size; have hE := hE.thenExt hx5   -- t25 := call F17(t23, t24) : 23,23
  refine WL.val (Y.move rfl) (by decide) ?_   -- t26 := move t25
  refine WL.know (d := 26) (u := .bool true) rfl (by rw [decide_eq_true rfl]) ?_
  refine WL.gval rfl rfl (Y.move rfl) (by decide) ?_   -- t27 := move t6 [if 3=true]
  refine WL.gval rfl rfl (Y.move rfl) (by decide) ?_   -- t28 := move t7 [if 3=true]
  refine WL.gval rfl rfl (Y.eql rfl rfl) (by decide) ?_   -- t29 := binOp eql 3 t27 t28 3 [if 3=true]
  refine WL.val (Y.pick rfl rfl) (by decide) ?_   -- t30 := pick t26 t29 c(false)
  refine WL.val (Y.move rfl) (by decide) ?_   -- t31 := move t30
  refine WL.know (d := 31) (u := .bool true) rfl (by rw [decide_eq_true rfl]) ?_
  refine WL.gcall rfl rfl Try.func18 rfl rfl rfl (alive_any _) (by decide) ?_; rintro v w6 ⟨rfl, hx6⟩; have hz6 := hx6.size; have hE := hE.thenExt hx6   -- t32 := call F18() :  [if 8=true]
  refine WL.val (Y.pick rfl rfl) (by decide) ?_   -- t33 := pick t31 t32 c(false)
  refine WL.val (Y.assign rfl) (by decide) ?_   -- t4 := assign t33
  refine WL.nil ?_
  refine hK8 _ _ ?_; try clear hK8 K8
  refine CW.ret ⟨_, rfl, ?_⟩
  exact ⟨rfl, hE⟩
theorem graphReaches_any (u v0 : Value) (l : List NdV) (ids : List Dig) (w : World) (hl : Nds w u l) (hd : Sl w digC 32 v0 ids) (hp : ids.length * 32 ≤ 140737488351232) : Calls Try.prog 13 #[u, v0] w (Ret (True_ w)) := by
  refine calls_of_CW 42 [4] [(0, u), (1, v0)] Try.func13 rfl rfl rfl (by simp) args2 ?_
  have hE : Ext w w := Chg.refl
  refine CW.seq fun K1 hK1 => ?_
  refine CW.region ?_   -- region 0
  refine WL.val (Y.assign rfl) (by decide) ?_   -- t4 := assign c(false)
  refine WL.nil ?_
  refine hK1 _ _ ?_; try clear hK1 K1
  refine CW.seq fun K2 hK2 => ?_
  refine CW.region ?_   -- region 1
  refine WL.val (Y.move rfl) (by decide) ?_   -- t10 := move t1
  refine WL.call Try.func19 rfl rfl rfl (two_any _ _ ids [] _ hd Sl.nil (by simp only [List.length_nil]; omega)) (by simp) ?_; rintro v11 w1 hR1   -- t11 := call F19(t10, c(nilslice)) : 23,23
  obtain ⟨hO1, hf1, hx1⟩ := hR1
  have hz1 := hx1.size
  have hE := hE.thenExt hx1
  rw [List.append_nil] at hO1
  have hX := hO1.sl digC_length (by decide)
  refine WL.val (Y.assign rfl) (by decide) ?_   -- t5 := assign t11
  refine WL.nil ?_
  refine hK2 _ _ ?_; try clear hK2 K2
  refine CW.seq fun K3 hK3 => ?_
  refine CW.region ?_   -- region 2
  refine WL.val (Y.move rfl) (by decide) ?_   -- t13 := move t0
  refine WL.val (Y.move rfl) (by decide) ?_   -- t14 := move t5
  refine WL.call Try.func33 rfl rfl rfl (gAbove_any _ _ l ids _ (hl.ext hE) hX) (by simp) ?_; rintro v15 w2 hR2   -- t15 := call F33(t13, t14) : 22,23
  obtain ⟨hv, rfl, hO2, hf2, hx2⟩ := hR2
  have hz2 := hx2.size
  have hE := hE.thenExt hx2
  have hS := hO2.sl digC_length (by decide)
  refine WL.val (Y.move rfl) (by decide) ?_   -- t12 := move t15
  refine WL.val (Y.extract rfl rfl) (by decide) ?_   -- t16 := extract t12 0
  refine WL.val (Y.extract rfl rfl) (by decide) ?_   -- t17 := extract t12 1
  refine WL.val (Y.assign rfl) (by decide) ?_   -- t6 := assign t16
  refine WL.val (Y.assign rfl) (by decide) ?_   -- t7 := assign t17
  refine WL.nil ?_
  refine hK3 _ _ ?_; try clear hK3 K3
  refine CW.seq fun K4 hK4 => ?_
  refine CW.region ?_   -- region 3
  refine WL.val (Y.move rfl) (by decide) ?_   -- t18 := move t0
  refine WL.val (Y.move rfl) (by decide) ?_   -- t19 := move t1
  refine WL.call Try.func15 rfl rfl rfl (rWrong_any _ _ l ids _ (hl.ext hE) (hd.ext hE)) (by simp) ?_; rintro v w3 ⟨rfl, hx3⟩; have hz3 := hx3.size; have hE := hE.thenExt hx3   -- t20 := call F15(t18, t19) : 22,23
  refine WL.val (Y.assign rfl) (by decide) ?_   -- t8 := assign t20
  refine WL.nil ?_
  refine hK4 _ _ ?_; try clear hK4 K4
  refine CW.seq fun K5 hK5 => ?_
  refine CW.region ?_   -- region 4
  refine WL.val (Y.assign rfl) (by decide) ?_   -- t9 := assign c(nilslice)
  refine WL.nil ?_
  refine hK5 _ _ ?_; try clear hK5 K5
  refine CW.seq_to (X := Value) (fun x => [(1, v0), (5, v11), (6, hv), (7, .int .i64 (wrongQ (ndsL l) ids)), (8, .int .i64 (wrongQ (ndsL l) ids)), (9, x)]) (fun x w0 => Sl w0 digC 32 x (if wrongQ (ndsL l) ids = 0 then aboveL (ndsL l) ids else []) ∧ Ext w3 w0) ?_ ?_
  · skip
    refine CW.seq fun K7 hK7 => ?_
    refine CW.region ?_   -- region 5
    refine WL.val (Y.move rfl) (by decide) ?_   -- t21 := move t8
    refine WL.val (Y.eql rfl rfl) (by decide) ?_   -- t22 := binOp eql 3 t21 c(0:i64) 3
    refine WL.nil ?_
    refine hK7 _ _ ?_; try clear hK7 K7
    first | refine CW.condD rfl (fun ht8 => ?_) (fun ht8 => ?_) | refine CW.condND rfl (fun ht8 => ?_) (fun ht8 => ?_) | refine CW.condN rfl (fun ht8 => ?_) (fun ht8 => ?_) | refine CW.cond rfl (fun ht8 => ?_) (fun ht8 => ?_)
    · -- then
      refine CW.region ?_   -- region 6
      refine WL.val (Y.move rfl) (by decide) ?_   -- t23 := move t0
      refine WL.val (Y.move rfl) (by decide) ?_   -- t24 := move t1
      refine WL.call Try.func34 rfl rfl rfl (rAbove_any _ _ l ids _ (hl.ext hE) (wrongQ_ok (by assumption)) (hd.ext hE) (wrongQ_in (by assumption))) (by simp) ?_; rintro v25 w4 hR4   -- t25 := call F34(t23, t24) : 22,23
      obtain ⟨hO4, hf4, hx4⟩ := hR4
      have hz4 := hx4.size
      have hE := hE.thenExt hx4
      refine WL.val (Y.assign rfl) (by decide) ?_   -- t9 := assign t25
      refine WL.nil ?_
      exact ⟨_, (by repeat (first | exact Fr.le.nil | refine Fr.le.cons rfl ?_)), by rw [if_pos (by assumption)]; exact hO4.sl digC_length (by decide), hx4⟩
    -- else
    refine CW.skip ?_
    exact ⟨_, (by repeat (first | exact Fr.le.nil | refine Fr.le.cons rfl ?_)), by rw [if_neg (by assumption)]; exact Sl.nil, Chg.refl⟩
  rintro u w5 hj5
  obtain ⟨hS2, hx5⟩ := hj5
  have hz5 := hx5.size
  have hE := hE.thenExt hx5
  refine CW.seq fun K9 hK9 => ?_
  refine CW.region ?_   -- region 7
  refine WL.val (Y.move rfl) (by decide) ?_   -- t26 := move t6
  refine WL.val (Y.move rfl) (by decide) ?_   -- t27 := move t9
  refine WL.call Try.func17 rfl rfl rfl (rSameD_any _ _ (if wrongQ (ndsL l) ids = 0 then aboveL (ndsL l) ids else []) (if wrongQ (ndsL l) ids = 0 then aboveL (ndsL l) ids else []) _ ((hS.ext hx3).ext hx5) hS2) (by simp) ?_; rintro v w6 ⟨rfl, hx6⟩; have hz6 := hx6.size; have hE := hE.thenExt hx6   -- t28 := call F17(t26, t27) : 23,23
  refine WL.val (Y.move rfl) (by decide) ?_   -- t29 := move t28
  refine WL.know (d := 29) (u := .bool true) rfl (by rw [decide_eq_true rfl]) ?_
  refine WL.gval rfl rfl (Y.move rfl) (by decide) ?_   -- t30 := move t7 [if 3=true]
  refine WL.gval rfl rfl (Y.move rfl) (by decide) ?_   -- t31 := move t8 [if 3=true]
  refine WL.gval rfl rfl (Y.eql rfl rfl) (by decide) ?_   -- t32 := binOp eql 3 t30 t31 3 [if 3=true]
  refine WL.val (Y.pick rfl rfl) (by decide) ?_   -- t33 := pick t29 t32 c(false)
  refine WL.val (Y.move rfl) (by decide) ?_   -- t34 := move t33
  refine WL.know (d := 34) (u := .bool true) rfl (by rw [decide_eq_true rfl]) ?_
  refine WL.gval rfl rfl (Y.move rfl) (by decide) ?_   -- t35 := move t5 [if 8=true]
  refine WL.gval rfl rfl (Y.move rfl) (by decide) ?_   -- t36 := move t1 [if 8=true]
  refine WL.gcall rfl rfl Try.func17 rfl rfl rfl (rSameD_any _ _ ids ids _ ((((hX.ext hx2).ext hx3).ext hx5).ext hx6) (hd.ext hE)) (by decide) ?_; rintro v w7 ⟨rfl, hx7⟩; have hz7 := hx7.size; have hE := hE.thenExt hx7   -- t37 := call F17(t35, t36) : 23,23 [if 8=true]
  refine WL.val (Y.pick rfl rfl) (by decide) ?_   -- t38 := pick t34 t37 c(false)
  refine WL.val (Y.move rfl) (by decide) ?_   -- t39 := move t38
  refine WL.know (d := 39) (u := .bool true) rfl (by rw [decide_eq_true rfl]) ?_
  refine WL.gcall rfl rfl Try.func18 rfl rfl rfl (alive_any _) (by decide) ?_; rintro v w8 ⟨rfl, hx8⟩; have hz8 := hx8.size; have hE := hE.thenExt hx8   -- t40 := call F18() :  [if 13=true]
  refine WL.val (Y.pick rfl rfl) (by decide) ?_   -- t41 := pick t39 t40 c(false)
  refine WL.val (Y.assign rfl) (by decide) ?_   -- t4 := assign t41
  refine WL.nil ?_
  refine hK9 _ _ ?_; try clear hK9 K9
  refine CW.ret ⟨_, rfl, ?_⟩
  exact ⟨rfl, hE⟩
end Go.Proofs.Ytecolkngbcgmcaa
