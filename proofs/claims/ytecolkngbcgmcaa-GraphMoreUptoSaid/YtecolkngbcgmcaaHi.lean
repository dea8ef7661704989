/- GraphCommons, GraphOrders: the laws' functions, walked. No condition. -/
import Derived.Test.YtecolkngbcgmcaaHd
set_option linter.unusedSimpArgs false
set_option linter.unusedVariables false
namespace Go.Pl
open Go.Fw
abbrev orX (l : List Nd) (ids : List Dig) : List Dig := if wrongQ l ids = 0 then ordL l ids else []
abbrev laX (l : List Nd) (a b : List Dig) : List Dig := if wrongQ l (a ++ b) = 0 then lacksL l a b else []
end Go.Pl
namespace Go.Proofs.Ytecolkngbcgmcaa
open Go.RowKit Go.Fw Go.Pl Go.Sort
section
variable (u va vb : Value) (l : List NdV) (a b : List Dig) (w : World) (hl : Nds w u l)
include hl
theorem gOrderX_any (ha : Sl w digC 32 va a) : Calls Try.prog 22 #[u, va] w (Ret fun v w' => ∃ hv, v = .tuple #[hv, .int .i64 (wrongQ (ndsL l) a)] ∧ Sl w' digC 32 hv (orX (ndsL l) a) ∧ Ext w w') :=
  (gOrder_any u va l a w hl ha).mono fun e w' he => by
    cases e with
    | returned v =>
      obtain ⟨hv, rfl, hO, _, hx⟩ := he
      refine ⟨hv, rfl, ?_, hx⟩
      have e : (if wrongQ (ndsL l) a = 0 then orderL (ndsL l) (markS (ndsL l) a) else []) = orX (ndsL l) a := by
        by_cases hq : wrongQ (ndsL l) a = 0
        · rw [if_pos hq, orX, if_pos hq, order_marks (wrongQ_ok7 hq) (wrongQ_in7 hq)]
        · rw [if_neg hq, orX, if_neg hq]
      rw [← e]
      exact hO.sl digC_length (by decide)
    | panicked c => exact he
    | outgrown => exact he
theorem gLacksX_any (ha : Sl w digC 32 va a) (hb : Sl w digC 32 vb b) : Calls Try.prog 23 #[u, va, vb] w (Ret fun v w' => ∃ hv, v = .tuple #[hv, .int .i64 (wrongQ (ndsL l) (a ++ b))] ∧ Sl w' digC 32 hv (laX (ndsL l) a b) ∧ Ext w w') :=
  (gLacks_any u va vb l a b w hl ha hb).mono fun e w' he => by
    cases e with
    | returned v => obtain ⟨hv, rfl, hO, _, hx⟩ := he; exact ⟨hv, rfl, hO.sl digC_length (by decide), hx⟩
    | panicked c => exact he
    | outgrown => exact he
end

set_option maxHeartbeats 1000000 in
theorem graphCommons_any (u v0 v1 : Value) (l : List NdV) (a b : List Dig) (w : World) (hl : Nds w u l) (ha : Sl w digC 32 v0 a) (hb : Sl w digC 32 v1 b) (hna : a.length ≤ 1048576) (hnb : b.length ≤ 1048576) : Calls Try.prog 8 #[u, v0, v1] w (Ret (True_ w)) := by
  refine calls_of_CW 78 [6] [(0, u), (1, v0), (2, v1)] Try.func8 rfl rfl rfl (by simp) args3 ?_
  have hE : Ext w w := Chg.refl
  refine CW.seq fun K1 hK1 => ?_
  refine CW.region ?_   -- region 0
  refine WL.val (Y.assign rfl) (by decide) ?_   -- t6 := assign c(false)
  refine WL.nil ?_
  refine hK1 _ _ ?_; try clear hK1 K1
  refine CW.seq fun K2 hK2 => ?_
  refine CW.region ?_   -- region 1
  refine WL.val (Y.move rfl) (by decide) ?_   -- t13 := move t0
  refine WL.val (Y.move rfl) (by decide) ?_   -- t14 := move t1
  refine WL.val (Y.move rfl) (by decide) ?_   -- t15 := move t2
  refine WL.call Try.func28 rfl rfl rfl (gCommonX_any _ _ _ l a b _ hl ha hb) (by simp) ?_; rintro v16 w1 hR1   -- t16 := call F28(t13, t14, t15) : 22,23,23
  obtain ⟨hv2, rfl, hSC, hx1⟩ := hR1
  skip; have hz1 := hx1.size; have hE := hE.thenExt hx1; have hl := hl.ext hx1; have ha := ha.ext hx1; have hb := hb.ext hx1
  refine WL.val (Y.move rfl) (by decide) ?_   -- t12 := move t16
  refine WL.val (Y.extract rfl rfl) (by decide) ?_   -- t17 := extract t12 0
  refine WL.val (Y.extract rfl rfl) (by decide) ?_   -- t18 := extract t12 1
  refine WL.val (Y.assign rfl) (by decide) ?_   -- t7 := assign t17
  refine WL.val (Y.assign rfl) (by decide) ?_   -- t8 := assign t18
  refine WL.nil ?_
  refine hK2 _ _ ?_; try clear hK2 K2
  refine CW.seq fun K3 hK3 => ?_
  refine CW.region ?_   -- region 2
  refine WL.val (Y.move rfl) (by decide) ?_   -- t20 := move t0
  refine WL.val (Y.move rfl) (by decide) ?_   -- t21 := move t1
  refine WL.val (Y.move rfl) (by decide) ?_   -- t22 := move t2
  refine WL.call Try.func29 rfl rfl rfl (gWithin_any _ _ _ l a b _ hl ha hb) (by simp) ?_; rintro v w2 ⟨rfl, hx2⟩; have hz2 := hx2.size; have hE := hE.thenExt hx2; have hl := hl.ext hx2; have ha := ha.ext hx2; have hb := hb.ext hx2; have hSC := hSC.ext hx2   -- t23 := call F29(t20, t21, t22) : 22,23,23
  refine WL.val (Y.move rfl) (by decide) ?_   -- t19 := move t23
  refine WL.val (Y.extract rfl rfl) (by decide) ?_   -- t24 := extract t19 0
  refine WL.val (Y.extract rfl rfl) (by decide) ?_   -- t25 := extract t19 1
  refine WL.val (Y.assign rfl) (by decide) ?_   -- t9 := assign t24
  refine WL.val (Y.assign rfl) (by decide) ?_   -- t10 := assign t25
  refine WL.nil ?_
  refine hK3 _ _ ?_; try clear hK3 K3
  refine CW.seq fun K4 hK4 => ?_
  refine CW.region ?_   -- region 3
  refine WL.val (Y.move rfl) (by decide) ?_   -- t26 := move t0
  refine WL.val (Y.move rfl) (by decide) ?_   -- t27 := move t1
  refine WL.val (Y.move rfl) (by decide) ?_   -- t28 := move t2
  refine WL.call Try.func19 rfl rfl rfl (two_sl _ _ a b _ ha hb (by omega)) (by simp) ?_; rintro v29 w3 hR3   -- t29 := call F19(t27, t28) : 23,23
  obtain ⟨ht3, hx3⟩ := hR3
  skip; have hz3 := hx3.size; have hE := hE.thenExt hx3; have hl := hl.ext hx3; have ha := ha.ext hx3; have hb := hb.ext hx3; have hSC := hSC.ext hx3
  refine WL.call Try.func15 rfl rfl rfl (rWrong_any _ _ l (a ++ b) _ hl ht3) (by simp) ?_; rintro v w4 ⟨rfl, hx4⟩; have hz4 := hx4.size; have hE := hE.thenExt hx4; have hl := hl.ext hx4; have ha := ha.ext hx4; have hb := hb.ext hx4; have hSC := hSC.ext hx4   -- t30 := call F15(t26, t29) : 22,23
  refine WL.val (Y.assign rfl) (by decide) ?_   -- t11 := assign t30
  refine WL.nil ?_
  refine hK4 _ _ ?_; try clear hK4 K4
  refine CW.seq fun K5 hK5 => ?_
  refine CW.seq fun K6 hK6 => ?_
  refine CW.region ?_   -- region 4
  refine WL.val (Y.move rfl) (by decide) ?_   -- t31 := move t11
  refine WL.val (Y.neq rfl rfl) (by decide) ?_   -- t32 := binOp neq 3 t31 c(0:i64) 3
  refine WL.nil ?_
  refine hK6 _ _ ?_; try clear hK6 K6
  first | refine CW.condD rfl (fun ht7 => ?_) (fun ht7 => ?_) | refine CW.condND rfl (fun ht7 => ?_) (fun ht7 => ?_) | refine CW.condN rfl (fun ht7 => ?_) (fun ht7 => ?_) | refine CW.cond rfl (fun ht7 => ?_) (fun ht7 => ?_)
  · -- then
    refine CW.seq fun K8 hK8 => ?_
    have hq : ¬ wrongQ (ndsL l) (a ++ b) = 0 := by assumption
    rw [cmX, if_neg hq] at hSC
    obtain ⟨AC, cC, rfl, _, _⟩ := hSC.lens
    have e1 : (if wrongQ (ndsL l) (a ++ b) = 0 then a.all (bitAt (markS (ndsL l) b) (ndsL l)) else false) = false := if_neg hq
    rw [e1]
    refine CW.region ?_   -- region 5
    refine WL.val (Y.move rfl) (by decide) ?_   -- t33 := move t7
    refine WL.val (Y.len_slice Try.underlying23 rfl) (by decide) ?_   -- t34 := call len(t33) : 23
    refine WL.val (Y.eql rfl rfl) (by decide) ?_   -- t35 := binOp eql 3 t34 c(0:i64) 3
    refine WL.val (Y.move rfl) (by decide) ?_   -- t36 := move t35
    refine WL.know (d := 36) (u := .bool true) rfl (by rfl) ?_
    refine WL.gval rfl rfl (Y.move rfl) (by decide) ?_   -- t37 := move t9 [if 3=true]
    refine WL.gval rfl rfl (Y.not rfl) (by decide) ?_   -- t38 := unOp not 4 t37 [if 3=true]
    refine WL.val (Y.pick rfl rfl) (by decide) ?_   -- t39 := pick t36 t38 c(false)
    refine WL.val (Y.move rfl) (by decide) ?_   -- t40 := move t39
    refine WL.know (d := 40) (u := .bool true) rfl (by rfl) ?_
    refine WL.gval rfl rfl (Y.move rfl) (by decide) ?_   -- t41 := move t8 [if 7=true]
    refine WL.gval rfl rfl (Y.move rfl) (by decide) ?_   -- t42 := move t11 [if 7=true]
    refine WL.gval rfl rfl (Y.eql rfl rfl) (by decide) ?_   -- t43 := binOp eql 3 t41 t42 3 [if 7=true]
    refine WL.val (Y.pick rfl rfl) (by decide) ?_   -- t44 := pick t40 t43 c(false)
    refine WL.val (Y.move rfl) (by decide) ?_   -- t45 := move t44
    refine WL.know (d := 45) (u := .bool true) rfl (by rw [decide_eq_true rfl]) ?_
    refine WL.gval rfl rfl (Y.move rfl) (by decide) ?_   -- t46 := move t10 [if 12=true]
    refine WL.gval rfl rfl (Y.move rfl) (by decide) ?_   -- t47 := move t11 [if 12=true]
    refine WL.gval rfl rfl (Y.eql rfl rfl) (by decide) ?_   -- t48 := binOp eql 3 t46 t47 3 [if 12=true]
    refine WL.val (Y.pick rfl rfl) (by decide) ?_   -- t49 := pick t45 t48 c(false)
    refine WL.val (Y.move rfl) (by decide) ?_   -- t50 := move t49
    refine WL.know (d := 50) (u := .bool true) rfl (by rw [decide_eq_true rfl]) ?_
    refine WL.gcall rfl rfl Try.func18 rfl rfl rfl (alive_any _) (by decide) ?_; rintro v w5 ⟨rfl, hx5⟩; have hz5 := hx5.size; have hE := hE.thenExt hx5; have hl := hl.ext hx5; have ha := ha.ext hx5; have hb := hb.ext hx5; have hSC := hSC.ext hx5   -- t51 := call F18() :  [if 17=true]
    refine WL.val (Y.pick rfl rfl) (by decide) ?_   -- t52 := pick t50 t51 c(false)
    refine WL.val (Y.assign rfl) (by decide) ?_   -- t6 := assign t52
    refine WL.nil ?_
    refine hK8 _ _ ?_; try clear hK8 K8
    refine CW.ret ⟨_, rfl, ?_⟩
    exact ⟨rfl, hE⟩
  -- else
  refine CW.skip ?_
  refine hK5 _ _ ?_; try clear hK5 K5
  refine CW.seq fun K9 hK9 => ?_
  have hq : wrongQ (ndsL l) (a ++ b) = 0 := Decidable.not_not.1 (by assumption)
  have hok := wrongQ_ok7 hq
  have hia : ∀ d ∈ a, d ∈ idsL (ndsL l) := fun d hd => wrongQ_in7 hq d (List.mem_append_left _ hd)
  have hib : ∀ d ∈ b, d ∈ idsL (ndsL l) := fun d hd => wrongQ_in7 hq d (List.mem_append_right _ hd)
  rw [cmX, if_pos hq] at hSC
  have e1 : (if wrongQ (ndsL l) (a ++ b) = 0 then a.all (bitAt (markS (ndsL l) b) (ndsL l)) else false) = wiB (ndsL l) a b := if_pos hq
  rw [e1]
  refine CW.region ?_   -- region 6
  refine WL.val (Y.move rfl) (by decide) ?_   -- t53 := move t7
  refine WL.val (Y.move rfl) (by decide) ?_   -- t54 := move t0
  refine WL.val (Y.move rfl) (by decide) ?_   -- t55 := move t1
  refine WL.val (Y.move rfl) (by decide) ?_   -- t56 := move t2
  refine WL.call Try.func30 rfl rfl rfl (rCommon_any _ _ _ l a b _ hl hok ha hb hia hib) (by simp) ?_; rintro v57 w6 hR6   -- t57 := call F30(t54, t55, t56) : 22,23,23
  obtain ⟨hOR, _, hx6⟩ := hR6
  have hSR := hOR.sl digC_length (by decide)
  skip; have hz6 := hx6.size; have hE := hE.thenExt hx6; have hl := hl.ext hx6; have ha := ha.ext hx6; have hb := hb.ext hx6; have hSC := hSC.ext hx6
  refine WL.call Try.func17 rfl rfl rfl (rSameD_any _ _ _ _ _ hSC hSR) (by simp) ?_; rintro v w7 ⟨rfl, hx7⟩; have hz7 := hx7.size; have hE := hE.thenExt hx7; have hl := hl.ext hx7; have ha := ha.ext hx7; have hb := hb.ext hx7; have hSC := hSC.ext hx7   -- t58 := call F17(t53, t57) : 23,23
  refine WL.val (Y.move rfl) (by decide) ?_   -- t59 := move t58
  refine WL.know (d := 59) (u := .bool true) rfl (by rw [commons_eq hok hia hib, decide_eq_true rfl]) ?_
  refine WL.gval rfl rfl (Y.move rfl) (by decide) ?_   -- t60 := move t9 [if 6=true]
  refine WL.gval rfl rfl (Y.move rfl) (by decide) ?_   -- t61 := move t0 [if 6=true]
  refine WL.gval rfl rfl (Y.move rfl) (by decide) ?_   -- t62 := move t1 [if 6=true]
  refine WL.gval rfl rfl (Y.move rfl) (by decide) ?_   -- t63 := move t2 [if 6=true]
  refine WL.gcall rfl rfl Try.func31 rfl rfl rfl (rWithin_any _ _ _ l a b _ hl hok ha hb hib (by omega)) (by decide) ?_; rintro v w8 ⟨rfl, hx8⟩; have hz8 := hx8.size; have hE := hE.thenExt hx8; have hl := hl.ext hx8; have ha := ha.ext hx8; have hb := hb.ext hx8; have hSC := hSC.ext hx8   -- t64 := call F31(t61, t62, t63) : 22,23,23 [if 6=true]
  refine WL.gval rfl rfl (Y.eql_bool Try.underlying4 rfl rfl) (by decide) ?_   -- t65 := binOp eql 4 t60 t64 4 [if 6=true]
  refine WL.val (Y.pick rfl rfl) (by decide) ?_   -- t66 := pick t59 t65 c(false)
  refine WL.val (Y.move rfl) (by decide) ?_   -- t67 := move t66
  refine WL.know (d := 67) (u := .bool true) rfl (by rw [within_eq hok hia hib]; simp) ?_
  refine WL.gval rfl rfl (Y.move rfl) (by decide) ?_   -- t68 := move t8 [if 14=true]
  refine WL.gval rfl rfl (Y.eql rfl rfl) (by decide) ?_   -- t69 := binOp eql 24 t68 c(0:i64) 24 [if 14=true]
  refine WL.val (Y.pick rfl rfl) (by decide) ?_   -- t70 := pick t67 t69 c(false)
  refine WL.val (Y.move rfl) (by decide) ?_   -- t71 := move t70
  refine WL.know (d := 71) (u := .bool true) rfl (by rw [hq]; rfl) ?_
  refine WL.gval rfl rfl (Y.move rfl) (by decide) ?_   -- t72 := move t10 [if 18=true]
  refine WL.gval rfl rfl (Y.eql rfl rfl) (by decide) ?_   -- t73 := binOp eql 24 t72 c(0:i64) 24 [if 18=true]
  refine WL.val (Y.pick rfl rfl) (by decide) ?_   -- t74 := pick t71 t73 c(false)
  refine WL.val (Y.move rfl) (by decide) ?_   -- t75 := move t74
  refine WL.know (d := 75) (u := .bool true) rfl (by rw [hq]; rfl) ?_
  refine WL.gcall rfl rfl Try.func18 rfl rfl rfl (alive_any _) (by decide) ?_; rintro v w9 ⟨rfl, hx9⟩; have hz9 := hx9.size; have hE := hE.thenExt hx9; have hl := hl.ext hx9; have ha := ha.ext hx9; have hb := hb.ext hx9; have hSC := hSC.ext hx9   -- t76 := call F18() :  [if 22=true]
  refine WL.val (Y.pick rfl rfl) (by decide) ?_   -- t77 := pick t75 t76 c(false)
  refine WL.val (Y.assign rfl) (by decide) ?_   -- t6 := assign t77
  refine WL.nil ?_
  refine hK9 _ _ ?_; try clear hK9 K9
  refine CW.ret ⟨_, rfl, ?_⟩
  exact ⟨rfl, hE⟩
set_option maxHeartbeats 1000000 in
theorem graphOrders_any (u v0 v1 : Value) (l : List NdV) (a b : List Dig) (w : World) (hl : Nds w u l) (ha : Sl w digC 32 v0 a) (hb : Sl w digC 32 v1 b) (hna : a.length ≤ 1048576) (hnb : b.length ≤ 1048576) : Calls Try.prog 6 #[u, v0, v1] w (Ret (True_ w)) := by
  refine calls_of_CW 83 [6] [(0, u), (1, v0), (2, v1)] Try.func6 rfl rfl rfl (by simp) args3 ?_
  have hE : Ext w w := Chg.refl
  refine CW.seq fun K1 hK1 => ?_
  refine CW.region ?_   -- region 0
  refine WL.val (Y.assign rfl) (by decide) ?_   -- t6 := assign c(false)
  refine WL.nil ?_
  refine hK1 _ _ ?_; try clear hK1 K1
  refine CW.seq fun K2 hK2 => ?_
  refine CW.region ?_   -- region 1
  refine WL.val (Y.move rfl) (by decide) ?_   -- t14 := move t0
  refine WL.val (Y.move rfl) (by decide) ?_   -- t15 := move t1
  refine WL.call Try.func22 rfl rfl rfl (gOrderX_any _ _ l a _ hl ha) (by simp) ?_; rintro v16 w1 hR1   -- t16 := call F22(t14, t15) : 22,23
  obtain ⟨hv1, rfl, hSO, hx1⟩ := hR1
  obtain ⟨AO, cO, rfl, _, _⟩ := hSO.lens
  skip; have hz1 := hx1.size; have hE := hE.thenExt hx1; have hl := hl.ext hx1; have ha := ha.ext hx1; have hb := hb.ext hx1
  refine WL.val (Y.move rfl) (by decide) ?_   -- t13 := move t16
  refine WL.val (Y.extract rfl rfl) (by decide) ?_   -- t17 := extract t13 0
  refine WL.val (Y.extract rfl rfl) (by decide) ?_   -- t18 := extract t13 1
  refine WL.val (Y.assign rfl) (by decide) ?_   -- t7 := assign t17
  refine WL.val (Y.assign rfl) (by decide) ?_   -- t8 := assign t18
  refine WL.nil ?_
  refine hK2 _ _ ?_; try clear hK2 K2
  refine CW.seq fun K3 hK3 => ?_
  refine CW.region ?_   -- region 2
  refine WL.val (Y.move rfl) (by decide) ?_   -- t20 := move t0
  refine WL.val (Y.move rfl) (by decide) ?_   -- t21 := move t1
  refine WL.val (Y.move rfl) (by decide) ?_   -- t22 := move t2
  refine WL.call Try.func23 rfl rfl rfl (gLacksX_any _ _ _ l a b _ hl ha hb) (by simp) ?_; rintro v23 w2 hR2   -- t23 := call F23(t20, t21, t22) : 22,23,23
  obtain ⟨hv2, rfl, hSL, hx2⟩ := hR2
  obtain ⟨AL, cL, rfl, _, _⟩ := hSL.lens
  skip; have hz2 := hx2.size; have hE := hE.thenExt hx2; have hl := hl.ext hx2; have ha := ha.ext hx2; have hb := hb.ext hx2; have hSO := hSO.ext hx2
  refine WL.val (Y.move rfl) (by decide) ?_   -- t19 := move t23
  refine WL.val (Y.extract rfl rfl) (by decide) ?_   -- t24 := extract t19 0
  refine WL.val (Y.extract rfl rfl) (by decide) ?_   -- t25 := extract t19 1
  refine WL.val (Y.assign rfl) (by decide) ?_   -- t9 := assign t24
  refine WL.val (Y.assign rfl) (by decide) ?_   -- t10 := assign t25
  refine WL.nil ?_
  refine hK3 _ _ ?_; try clear hK3 K3
  refine CW.seq fun K4 hK4 => ?_
  refine CW.region ?_   -- region 3
  refine WL.val (Y.move rfl) (by decide) ?_   -- t26 := move t0
  refine WL.val (Y.move rfl) (by decide) ?_   -- t27 := move t1
  refine WL.call Try.func15 rfl rfl rfl (rWrong_any _ _ l a _ hl ha) (by simp) ?_; rintro v w3 ⟨rfl, hx3⟩; have hz3 := hx3.size; have hE := hE.thenExt hx3; have hl := hl.ext hx3; have ha := ha.ext hx3; have hb := hb.ext hx3; have hSO := hSO.ext hx3; have hSL := hSL.ext hx3   -- t28 := call F15(t26, t27) : 22,23
  refine WL.val (Y.assign rfl) (by decide) ?_   -- t11 := assign t28
  refine WL.nil ?_
  refine hK4 _ _ ?_; try clear hK4 K4
  refine CW.seq fun K5 hK5 => ?_
  refine CW.region ?_   -- region 4
  refine WL.val (Y.move rfl) (by decide) ?_   -- t29 := move t0
  refine WL.val (Y.move rfl) (by decide) ?_   -- t30 := move t1
  refine WL.val (Y.move rfl) (by decide) ?_   -- t31 := move t2
  refine WL.call Try.func19 rfl rfl rfl (two_sl _ _ a b _ ha hb (by omega)) (by simp) ?_; rintro v32 w4 hR4   -- t32 := call F19(t30, t31) : 23,23
  obtain ⟨ht4, hx4⟩ := hR4
  skip; have hz4 := hx4.size; have hE := hE.thenExt hx4; have hl := hl.ext hx4; have ha := ha.ext hx4; have hb := hb.ext hx4; have hSO := hSO.ext hx4; have hSL := hSL.ext hx4
  refine WL.call Try.func15 rfl rfl rfl (rWrong_any _ _ l (a ++ b) _ hl ht4) (by simp) ?_; rintro v w5 ⟨rfl, hx5⟩; have hz5 := hx5.size; have hE := hE.thenExt hx5; have hl := hl.ext hx5; have ha := ha.ext hx5; have hb := hb.ext hx5; have hSO := hSO.ext hx5; have hSL := hSL.ext hx5   -- t33 := call F15(t29, t32) : 22,23
  refine WL.val (Y.assign rfl) (by decide) ?_   -- t12 := assign t33
  refine WL.nil ?_
  refine hK5 _ _ ?_; try clear hK5 K5
  refine CW.seq fun K6 hK6 => ?_
  refine CW.seq_test 41 (False) ?_ ?_
  · refine CW.region ?_
    refine WL.val (Y.move rfl) (by decide) ?_   -- t34 := move t8
    refine WL.val (Y.move rfl) (by decide) ?_   -- t35 := move t11
    refine WL.val (Y.neq rfl rfl) (by decide) ?_   -- t36 := binOp neq 3 t34 t35 3
    refine WL.val (Y.move rfl) (by decide) ?_   -- t37 := move t36
    refine WL.know (d := 37) (u := .bool false) rfl (by simp) ?_
    refine WL.gval rfl rfl (Y.move rfl) (by decide) ?_   -- t38 := move t10 [if 3=false]
    refine WL.gval rfl rfl (Y.move rfl) (by decide) ?_   -- t39 := move t12 [if 3=false]
    refine WL.gval rfl rfl (Y.neq rfl rfl) (by decide) ?_   -- t40 := binOp neq 3 t38 t39 3 [if 3=false]
    refine WL.val (Y.pick rfl rfl) (by decide) ?_   -- t41 := pick t37 c(true) t40
    refine WL.nil ⟨⟨_, rfl, ?_⟩, rfl, (by repeat (first | exact Fr.le.refl | refine Fr.le.push rfl ?_))⟩
    first | (simp only [*, Int.natCast_inj, Bool.not_eq_true', decide_eq_false_iff_not, decide_eq_true_eq, not_true_eq_false, not_false_eq_true, true_and, false_and, and_true, and_false, false_or, or_false, true_or, or_true, iff_true, true_iff, iff_false, false_iff]; done) | (simp_all; done) | (refine congrArg Value.bool (Bool.eq_iff_iff.2 ?_); simp_all; done) | (simp_all; omega)
  first | refine CW.condD rfl (fun ht7 => ?_) (fun ht7 => ?_) | refine CW.condND rfl (fun ht7 => ?_) (fun ht7 => ?_) | refine CW.condN rfl (fun ht7 => ?_) (fun ht7 => ?_) | refine CW.cond rfl (fun ht7 => ?_) (fun ht7 => ?_)
  · -- then
    refine CW.seq fun K8 hK8 => ?_
    refine CW.region ?_   -- region 6
    refine WL.val (Y.assign rfl) (by decide) ?_   -- t6 := assign c(false)
    refine WL.nil ?_
    refine hK8 _ _ ?_; try clear hK8 K8
    refine CW.ret ⟨_, rfl, ?_⟩
    exact (by assumption : False).elim
  -- else
  refine CW.skip ?_
  refine hK6 _ _ ?_; try clear hK6 K6
  refine CW.seq fun K9 hK9 => ?_
  refine CW.seq_testE 60 (False) ?_ ?_
  · refine CW.region ?_
    refine WL.val (Y.move rfl) (by decide) ?_   -- t42 := move t11
    refine WL.val (Y.eql rfl rfl) (by decide) ?_   -- t43 := binOp eql 3 t42 c(0:i64) 3
    refine WL.val (Y.move rfl) (by decide) ?_   -- t44 := move t43
    first | refine WL.casesD (d := 44) rfl (fun hg44 => ?_) (fun hg44 => ?_) | refine WL.casesND (d := 44) rfl (fun hg44 => ?_) (fun hg44 => ?_) | refine WL.cases (d := 44) rfl (fun hg44 => ?_) (fun hg44 => ?_)
    · -- t44 = T
      refine WL.gval rfl rfl (Y.move rfl) (by decide) ?_   -- t45 := move t7 [if 2=true]
      refine WL.gval rfl rfl (Y.move rfl) (by decide) ?_   -- t46 := move t0 [if 2=true]
      refine WL.gval rfl rfl (Y.move rfl) (by decide) ?_   -- t47 := move t1 [if 2=true]
      refine WL.gcall rfl rfl Try.func24 rfl rfl rfl (rOrder_any _ _ l a _ hl (wrongQ_ok7 hg44) ha (wrongQ_in7 hg44)) (by decide) ?_; rintro v48 w6 hR6   -- t48 := call F24(t46, t47) : 22,23 [if 2=true]
      obtain ⟨hOR, _, hx6⟩ := hR6
      have hSR := hOR.sl digC_length (by decide)
      skip; have hz6 := hx6.size; have hE := hE.thenExt hx6; have hl := hl.ext hx6; have ha := ha.ext hx6; have hb := hb.ext hx6; have hSO := hSO.ext hx6; have hSL := hSL.ext hx6
      refine WL.gcall rfl rfl Try.func17 rfl rfl rfl (rSameD_any _ _ (orX (ndsL l) a) (ordL (ndsL l) a) _ hSO hSR) (by decide) ?_; rintro v w7 ⟨rfl, hx7⟩; have hz7 := hx7.size; have hE := hE.thenExt hx7; have hl := hl.ext hx7; have ha := ha.ext hx7; have hb := hb.ext hx7; have hSO := hSO.ext hx7; have hSL := hSL.ext hx7   -- t49 := call F17(t45, t48) : 23,23 [if 2=true]
      refine WL.gval rfl rfl (Y.not rfl) (by decide) ?_   -- t50 := unOp not 4 t49 [if 2=true]
      refine WL.val (Y.pick rfl rfl) (by decide) ?_   -- t51 := pick t44 t50 c(false)
      refine WL.val (Y.move rfl) (by decide) ?_   -- t52 := move t51
      refine WL.know (d := 52) (u := .bool false) rfl (by rw [orX, if_pos hg44, decide_eq_true rfl]; rfl) ?_
      refine WL.gval rfl rfl (Y.move rfl) (by decide) ?_   -- t53 := move t11 [if 10=false]
      refine WL.gval rfl rfl (Y.neq rfl rfl) (by decide) ?_   -- t54 := binOp neq 3 t53 c(0:i64) 3 [if 10=false]
      refine WL.gval rfl rfl (Y.move rfl) (by decide) ?_   -- t55 := move t54 [if 10=false]
      first | refine WL.casesD (d := 55) rfl (fun hg55 => ?_) (fun hg55 => ?_) | refine WL.casesND (d := 55) rfl (fun hg55 => ?_) (fun hg55 => ?_) | refine WL.cases (d := 55) rfl (fun hg55 => ?_) (fun hg55 => ?_)
      · -- t55 = T
        refine WL.gval rfl rfl (Y.move rfl) (by decide) ?_   -- t56 := move t7 [if 13=true]
        refine WL.gval rfl rfl (Y.len_slice Try.underlying23 rfl) (by decide) ?_   -- t57 := call len(t56) : 23 [if 13=true]
        refine WL.gval rfl rfl (Y.gtr rfl rfl) (by decide) ?_   -- t58 := binOp gtr 3 t57 c(0:i64) 3 [if 13=true]
        refine WL.gval rfl rfl (Y.pick rfl rfl) (by decide) ?_   -- t59 := pick t55 t58 c(false) [if 10=false]
        refine WL.val (Y.pick rfl rfl) (by decide) ?_   -- t60 := pick t52 c(true) t59
        refine WL.nil ⟨⟨_, rfl, ?_⟩, (hx6.thenExt hx7), (by repeat (first | exact Fr.le.refl | refine Fr.le.push rfl ?_))⟩
        first | (simp only [*, Int.natCast_inj, Bool.not_eq_true', decide_eq_false_iff_not, decide_eq_true_eq, not_true_eq_false, not_false_eq_true, true_and, false_and, and_true, and_false, false_or, or_false, true_or, or_true, iff_true, true_iff, iff_false, false_iff]; done) | (simp_all; done) | (refine congrArg Value.bool (Bool.eq_iff_iff.2 ?_); simp_all; done) | (simp_all; omega)
      · -- t55 = F
        refine WL.goff rfl rfl (by decide) ?_   -- t56 := move t7 [if 13=true]
        refine WL.goff rfl rfl (by decide) ?_   -- t57 := call len(t56) : 23 [if 13=true]
        refine WL.goff rfl rfl (by decide) ?_   -- t58 := binOp gtr 3 t57 c(0:i64) 3 [if 13=true]
        refine WL.gval rfl rfl (Y.pick rfl rfl) (by decide) ?_   -- t59 := pick t55 t58 c(false) [if 10=false]
        refine WL.val (Y.pick rfl rfl) (by decide) ?_   -- t60 := pick t52 c(true) t59
        refine WL.nil ⟨⟨_, rfl, ?_⟩, (hx6.thenExt hx7), (by repeat (first | exact Fr.le.refl | refine Fr.le.push rfl ?_))⟩
        first | (simp only [*, Int.natCast_inj, Bool.not_eq_true', decide_eq_false_iff_not, decide_eq_true_eq, not_true_eq_false, not_false_eq_true, true_and, false_and, and_true, and_false, false_or, or_false, true_or, or_true, iff_true, true_iff, iff_false, false_iff]; done) | (simp_all; done) | (refine congrArg Value.bool (Bool.eq_iff_iff.2 ?_); simp_all; done) | (simp_all; omega)
    · -- t44 = F
      refine WL.goff rfl rfl (by decide) ?_   -- t45 := move t7 [if 2=true]
      refine WL.goff rfl rfl (by decide) ?_   -- t46 := move t0 [if 2=true]
      refine WL.goff rfl rfl (by decide) ?_   -- t47 := move t1 [if 2=true]
      refine WL.goff rfl rfl (by decide) ?_   -- t48 := call F24(t46, t47) : 22,23 [if 2=true]
      refine WL.goff rfl rfl (by decide) ?_   -- t49 := call F17(t45, t48) : 23,23 [if 2=true]
      refine WL.goff rfl rfl (by decide) ?_   -- t50 := unOp not 4 t49 [if 2=true]
      refine WL.val (Y.pick rfl rfl) (by decide) ?_   -- t51 := pick t44 t50 c(false)
      refine WL.val (Y.move rfl) (by decide) ?_   -- t52 := move t51
      refine WL.gval rfl rfl (Y.move rfl) (by decide) ?_   -- t53 := move t11 [if 10=false]
      refine WL.gval rfl rfl (Y.neq rfl rfl) (by decide) ?_   -- t54 := binOp neq 3 t53 c(0:i64) 3 [if 10=false]
      refine WL.gval rfl rfl (Y.move rfl) (by decide) ?_   -- t55 := move t54 [if 10=false]
      first | refine WL.casesD (d := 55) rfl (fun hg55 => ?_) (fun hg55 => ?_) | refine WL.casesND (d := 55) rfl (fun hg55 => ?_) (fun hg55 => ?_) | refine WL.cases (d := 55) rfl (fun hg55 => ?_) (fun hg55 => ?_)
      · -- t55 = T
        refine WL.gval rfl rfl (Y.move rfl) (by decide) ?_   -- t56 := move t7 [if 13=true]
        refine WL.gval rfl rfl (Y.len_slice Try.underlying23 rfl) (by decide) ?_   -- t57 := call len(t56) : 23 [if 13=true]
        refine WL.gval rfl rfl (Y.gtr rfl rfl) (by decide) ?_   -- t58 := binOp gtr 3 t57 c(0:i64) 3 [if 13=true]
        refine WL.gval rfl rfl (Y.pick rfl rfl) (by decide) ?_   -- t59 := pick t55 t58 c(false) [if 10=false]
        refine WL.val (Y.pick rfl rfl) (by decide) ?_   -- t60 := pick t52 c(true) t59
        refine WL.nil ⟨⟨_, rfl, ?_⟩, Chg.refl, (by repeat (first | exact Fr.le.refl | refine Fr.le.push rfl ?_))⟩
        first | (simp only [*, Int.natCast_inj, Bool.not_eq_true', decide_eq_false_iff_not, decide_eq_true_eq, not_true_eq_false, not_false_eq_true, true_and, false_and, and_true, and_false, false_or, or_false, true_or, or_true, iff_true, true_iff, iff_false, false_iff]; done) | (simp_all; done) | (refine congrArg Value.bool (Bool.eq_iff_iff.2 ?_); simp_all; done) | (simp_all; omega)
      · -- t55 = F
        refine WL.goff rfl rfl (by decide) ?_   -- t56 := move t7 [if 13=true]
        refine WL.goff rfl rfl (by decide) ?_   -- t57 := call len(t56) : 23 [if 13=true]
        refine WL.goff rfl rfl (by decide) ?_   -- t58 := binOp gtr 3 t57 c(0:i64) 3 [if 13=true]
        refine WL.gval rfl rfl (Y.pick rfl rfl) (by decide) ?_   -- t59 := pick t55 t58 c(false) [if 10=false]
        refine WL.val (Y.pick rfl rfl) (by decide) ?_   -- t60 := pick t52 c(true) t59
        refine WL.nil ⟨⟨_, rfl, ?_⟩, Chg.refl, (by repeat (first | exact Fr.le.refl | refine Fr.le.push rfl ?_))⟩
        first | (simp only [*, Int.natCast_inj, Bool.not_eq_true', decide_eq_false_iff_not, decide_eq_true_eq, not_true_eq_false, not_false_eq_true, true_and, false_and, and_true, and_false, false_or, or_false, true_or, or_true, iff_true, true_iff, iff_false, false_iff]; done) | (simp_all; done) | (refine congrArg Value.bool (Bool.eq_iff_iff.2 ?_); simp_all; done) | (simp_all; omega)
  intro w8 hx8; have hz8 := hx8.size; have hE := hE.thenExt hx8; have hl := hl.ext hx8; have ha := ha.ext hx8; have hb := hb.ext hx8; have hSO := hSO.ext hx8; have hSL := hSL.ext hx8
  first | refine CW.condD rfl (fun ht10 => ?_) (fun ht10 => ?_) | refine CW.condND rfl (fun ht10 => ?_) (fun ht10 => ?_) | refine CW.condN rfl (fun ht10 => ?_) (fun ht10 => ?_) | refine CW.cond rfl (fun ht10 => ?_) (fun ht10 => ?_)
  · -- then
    refine CW.seq fun K11 hK11 => ?_
    refine CW.region ?_   -- region 8
    refine WL.val (Y.assign rfl) (by decide) ?_   -- t6 := assign c(false)
    refine WL.nil ?_
    refine hK11 _ _ ?_; try clear hK11 K11
    refine CW.ret ⟨_, rfl, ?_⟩
    exact (by assumption : False).elim
  -- else
  refine CW.skip ?_
  refine hK9 _ _ ?_; try clear hK9 K9
  refine CW.seq fun K12 hK12 => ?_
  refine CW.region ?_   -- region 9
  refine WL.val (Y.move rfl) (by decide) ?_   -- t61 := move t12
  refine WL.val (Y.eql rfl rfl) (by decide) ?_   -- t62 := binOp eql 3 t61 c(0:i64) 3
  refine WL.val (Y.move rfl) (by decide) ?_   -- t63 := move t62
  first | refine WL.casesD (d := 63) rfl (fun hg63 => ?_) (fun hg63 => ?_) | refine WL.casesND (d := 63) rfl (fun hg63 => ?_) (fun hg63 => ?_) | refine WL.cases (d := 63) rfl (fun hg63 => ?_) (fun hg63 => ?_)
  · -- t63 = T
    refine WL.gval rfl rfl (Y.move rfl) (by decide) ?_   -- t64 := move t9 [if 2=true]
    refine WL.gval rfl rfl (Y.move rfl) (by decide) ?_   -- t65 := move t0 [if 2=true]
    refine WL.gval rfl rfl (Y.move rfl) (by decide) ?_   -- t66 := move t1 [if 2=true]
    refine WL.gval rfl rfl (Y.move rfl) (by decide) ?_   -- t67 := move t2 [if 2=true]
    refine WL.gcall rfl rfl Try.func25 rfl rfl rfl (rLacks_any _ _ _ l a b _ hl (wrongQ_ok7 hg63) ha hb (fun d hd => wrongQ_in7 hg63 d (List.mem_append_left _ hd)) (fun d hd => wrongQ_in7 hg63 d (List.mem_append_right _ hd))) (by decide) ?_; rintro v68 w9 hR9   -- t68 := call F25(t65, t66, t67) : 22,23,23 [if 2=true]
    obtain ⟨hOR, _, hx9⟩ := hR9
    have hSR := hOR.sl digC_length (by decide)
    skip; have hz9 := hx9.size; have hE := hE.thenExt hx9; have hl := hl.ext hx9; have ha := ha.ext hx9; have hb := hb.ext hx9; have hSO := hSO.ext hx9; have hSL := hSL.ext hx9
    refine WL.gcall rfl rfl Try.func17 rfl rfl rfl (rSameD_any _ _ (laX (ndsL l) a b) _ _ hSL hSR) (by decide) ?_; rintro v w10 ⟨rfl, hx10⟩; have hz10 := hx10.size; have hE := hE.thenExt hx10; have hl := hl.ext hx10; have ha := ha.ext hx10; have hb := hb.ext hx10; have hSO := hSO.ext hx10; have hSL := hSL.ext hx10   -- t69 := call F17(t64, t68) : 23,23 [if 2=true]
    refine WL.val (Y.pick rfl rfl) (by decide) ?_   -- t70 := pick t63 t69 c(false)
    refine WL.val (Y.move rfl) (by decide) ?_   -- t71 := move t70
    refine WL.know (d := 71) (u := .bool true) rfl (by rw [laX, if_pos hg63, lacks_eq (wrongQ_ok7 hg63) (fun d hd => wrongQ_in7 hg63 d (List.mem_append_left _ hd)) (fun d hd => wrongQ_in7 hg63 d (List.mem_append_right _ hd)), decide_eq_true rfl]) ?_
    refine WL.goff rfl rfl (by decide) ?_   -- t72 := move t12 [if 10=false]
    refine WL.goff rfl rfl (by decide) ?_   -- t73 := binOp neq 3 t72 c(0:i64) 3 [if 10=false]
    refine WL.goff rfl rfl (by decide) ?_   -- t74 := move t73 [if 10=false]
    refine WL.goffU rfl rfl (by decide) ?_   -- t75 := move t9 [if 13=true]
    refine WL.goffU rfl rfl (by decide) ?_   -- t76 := call len(t75) : 23 [if 13=true]
    refine WL.goffU rfl rfl (by decide) ?_   -- t77 := binOp eql 3 t76 c(0:i64) 3 [if 13=true]
    refine WL.goff rfl rfl (by decide) ?_   -- t78 := pick t74 t77 c(false) [if 10=false]
    refine WL.val (Y.pick rfl rfl) (by decide) ?_   -- t79 := pick t71 c(true) t78
    refine WL.val (Y.move rfl) (by decide) ?_   -- t80 := move t79
    refine WL.gcall rfl rfl Try.func18 rfl rfl rfl (alive_any _) (by decide) ?_; rintro v w11 ⟨rfl, hx11⟩; have hz11 := hx11.size; have hE := hE.thenExt hx11; have hl := hl.ext hx11; have ha := ha.ext hx11; have hb := hb.ext hx11; have hSO := hSO.ext hx11; have hSL := hSL.ext hx11   -- t81 := call F18() :  [if 19=true]
    refine WL.val (Y.pick rfl rfl) (by decide) ?_   -- t82 := pick t80 t81 c(false)
    refine WL.val (Y.assign rfl) (by decide) ?_   -- t6 := assign t82
    refine WL.nil ?_
    refine hK12 _ _ ?_; try clear hK12 K12
    refine CW.ret ⟨_, rfl, ?_⟩
    exact ⟨rfl, hE⟩
  · -- t63 = F
    refine WL.goff rfl rfl (by decide) ?_   -- t64 := move t9 [if 2=true]
    refine WL.goff rfl rfl (by decide) ?_   -- t65 := move t0 [if 2=true]
    refine WL.goff rfl rfl (by decide) ?_   -- t66 := move t1 [if 2=true]
    refine WL.goff rfl rfl (by decide) ?_   -- t67 := move t2 [if 2=true]
    refine WL.goff rfl rfl (by decide) ?_   -- t68 := call F25(t65, t66, t67) : 22,23,23 [if 2=true]
    refine WL.goff rfl rfl (by decide) ?_   -- t69 := call F17(t64, t68) : 23,23 [if 2=true]
    refine WL.val (Y.pick rfl rfl) (by decide) ?_   -- t70 := pick t63 t69 c(false)
    refine WL.val (Y.move rfl) (by decide) ?_   -- t71 := move t70
    refine WL.gval rfl rfl (Y.move rfl) (by decide) ?_   -- t72 := move t12 [if 10=false]
    refine WL.gval rfl rfl (Y.neq rfl rfl) (by decide) ?_   -- t73 := binOp neq 3 t72 c(0:i64) 3 [if 10=false]
    refine WL.gval rfl rfl (Y.move rfl) (by decide) ?_   -- t74 := move t73 [if 10=false]
    refine WL.know (d := 74) (u := .bool true) rfl (by rw [decide_eq_true hg63]) ?_
    refine WL.gval rfl rfl (Y.move rfl) (by decide) ?_   -- t75 := move t9 [if 13=true]
    refine WL.gval rfl rfl (Y.len_slice Try.underlying23 rfl) (by decide) ?_   -- t76 := call len(t75) : 23 [if 13=true]
    refine WL.gval rfl rfl (Y.eql rfl rfl) (by decide) ?_   -- t77 := binOp eql 3 t76 c(0:i64) 3 [if 13=true]
    refine WL.gval rfl rfl (Y.pick rfl rfl) (by decide) ?_   -- t78 := pick t74 t77 c(false) [if 10=false]
    refine WL.val (Y.pick rfl rfl) (by decide) ?_   -- t79 := pick t71 c(true) t78
    refine WL.val (Y.move rfl) (by decide) ?_   -- t80 := move t79
    refine WL.know (d := 80) (u := .bool true) rfl (by simp [laX, hg63]) ?_
    refine WL.gcall rfl rfl Try.func18 rfl rfl rfl (alive_any _) (by decide) ?_; rintro v w12 ⟨rfl, hx12⟩; have hz12 := hx12.size; have hE := hE.thenExt hx12; have hl := hl.ext hx12; have ha := ha.ext hx12; have hb := hb.ext hx12; have hSO := hSO.ext hx12; have hSL := hSL.ext hx12   -- t81 := call F18() :  [if 19=true]
    refine WL.val (Y.pick rfl rfl) (by decide) ?_   -- t82 := pick t80 t81 c(false)
    refine WL.val (Y.assign rfl) (by decide) ?_   -- t6 := assign t82
    refine WL.nil ?_
    refine hK12 _ _ ?_; try clear hK12 K12
    refine CW.ret ⟨_, rfl, ?_⟩
    exact ⟨rfl, hE⟩
end Go.Proofs.Ytecolkngbcgmcaa
