/- What is wrong with a commit: commit.May and the reference's May, walked. No condition. -/
import Derived.Test.YtoncdfpohdchgaaDoorRt
set_option linter.unusedSimpArgs false
set_option linter.unusedVariables false
namespace Go.Proofs.YtoncdfpohdchgaaDoor
open Go.RowKit Go.Fw Go.Pl

theorem may_any (cv : Value) (cm : ComD) (w : World) (hc : Com w cv cm) : Calls Tryd.prog 70 #[cv] w (Ret fun v w' => v = .int .i64 (mayI cm) ∧ Ext w w') := by
  obtain ⟨pv, ov, rfl, hp, ho, hau, hno⟩ := hc
  have hoS := ho
  obtain ⟨A, m, c, rfl, hm, hmc, hcm, hps⟩ := hp
  obtain ⟨B, k, d, rfl, hk, hkd, hdm, hos⟩ := ho
  unfold maxLen at hcm hdm
  refine calls_of_CW 64 [2] [(0, .agg (comC (.slice A m c) cm.author cm.note (.slice B k d)).toArray)] Tryd.func70 rfl rfl rfl (by simp) args1 ?_
  refine CW.seq fun K1 hK1 => ?_
  refine CW.region ?_   -- region 0
  refine WL.box rfl rfl (by decide) fun g1 w1 hx1 hg1 hB1 => ?_   -- t1 := box 76 t0
  have hM1 := hB1.mem
  refine WL.val (Y.assign rfl) (by decide) ?_   -- t2 := assign c(0:i64)
  refine WL.nil ?_
  refine hK1 _ _ ?_; try clear hK1 K1
  refine CW.seq fun K2 hK2 => ?_
  refine CW.seq fun K3 hK3 => ?_
  refine CW.region ?_   -- region 1
  refine WL.val (Y.fieldAddr fo_apiCommit0 rfl) (by decide) ?_   -- t6 := fieldAddr 76 t1 0
  refine WL.val (Y.load1 Tryd.underlying29 rfl hM1.com0 rfl) (by decide) ?_   -- t7 := load 29 t6
  refine WL.val (Y.len_slice Tryd.underlying29 rfl) (by decide) ?_   -- t8 := call len(t7) : 29
  refine WL.val (Y.gtr rfl rfl) (by decide) ?_   -- t9 := binOp gtr 3 t8 c(8:i64) 3
  refine WL.nil ?_
  refine hK3 _ _ ?_; try clear hK3 K3
  first | refine CW.condD rfl (fun ht4 => ?_) (fun ht4 => ?_) | refine CW.condND rfl (fun ht4 => ?_) (fun ht4 => ?_) | refine CW.condN rfl (fun ht4 => ?_) (fun ht4 => ?_) | refine CW.cond rfl (fun ht4 => ?_) (fun ht4 => ?_)
  · -- then
    refine CW.seq fun K5 hK5 => ?_
    refine CW.region ?_   -- region 2
    refine WL.val (Y.assign rfl) (by decide) ?_   -- t2 := assign c(4:i64)
    refine WL.nil ?_
    refine hK5 _ _ ?_; try clear hK5 K5
    refine CW.ret ⟨_, rfl, ?_⟩
    exact ⟨by rw [mayI, if_pos (by omega)], hx1⟩
  -- else
  refine CW.skip ?_
  refine hK2 _ _ ?_; try clear hK2 K2
  refine CW.seq fun K6 hK6 => ?_
  refine CW.seq fun K7 hK7 => ?_
  refine CW.region ?_   -- region 3
  refine WL.val (Y.fieldAddr fo_apiCommit0 rfl) (by decide) ?_   -- t10 := fieldAddr 76 t1 0
  refine WL.val (Y.load1 Tryd.underlying29 rfl hM1.com0 rfl) (by decide) ?_   -- t11 := load 29 t10
  refine WL.val (Y.len_slice Tryd.underlying29 rfl) (by decide) ?_   -- t12 := call len(t11) : 29
  refine WL.val (Y.move rfl) (by decide) ?_   -- t13 := move c(0:i64)
  refine WL.nil ?_
  refine hK7 _ _ ?_; try clear hK7 K7
  refine CW.block ?_   -- block 0
  refine CW.loop (X := Nat) (fun x => [(1, .pointer (some ⟨g1, 0, none⟩)), (12, .int .i64 (m : Int)), (13, .int .i64 (x : Int))]) (fun x w0 => x ≤ m ∧ (∀ i a b, i + 1 < x → cm.parents[i]? = some a → cm.parents[i + 1]? = some b → lessB a b = true) ∧ Ext w w0 ∧ Mem w0 ⟨g1, 0, none⟩ (comC (.slice A m c) cm.author cm.note (.slice B k d))) (fun x => m - x) 0 (Fr.le.cons rfl (Fr.le.cons rfl (Fr.le.cons rfl Fr.le.nil))) ⟨by omega, fun i a b h => by omega, hx1, hM1⟩ ?_
  intro x w2 hl2
  obtain ⟨hi, hrs, hL2, hM1⟩ := hl2
  refine CW.seq fun K8 hK8 => ?_
  refine CW.region ?_   -- region 4
  refine WL.val (Y.lss rfl rfl) (by decide) ?_   -- t14 := binOp lss 3 t13 t12 3
  refine WL.nil ?_
  refine hK8 _ _ ?_; try clear hK8 K8
  refine CW.seq fun K9 hK9 => ?_
  first | refine CW.condD rfl (fun ht10 => ?_) (fun ht10 => ?_) | refine CW.condND rfl (fun ht10 => ?_) (fun ht10 => ?_) | refine CW.condN rfl (fun ht10 => ?_) (fun ht10 => ?_) | refine CW.cond rfl (fun ht10 => ?_) (fun ht10 => ?_)
  · -- then
    refine CW.skip ?_
    refine hK9 _ _ ?_; try clear hK9 K9
    refine CW.seq fun K11 hK11 => ?_
    refine CW.block ?_   -- block 1
    refine CW.seq fun K12 hK12 => ?_
    refine CW.region ?_   -- region 5
    refine WL.val (Y.move rfl) (by decide) ?_   -- t15 := move t13
    refine WL.val (Y.assign rfl) (by decide) ?_   -- t3 := assign t15
    refine WL.nil ?_
    refine hK12 _ _ ?_; try clear hK12 K12
    obtain ⟨b, hb⟩ : ∃ b, cm.parents[x]? = some b := ⟨_, List.getElem?_eq_getElem (by omega)⟩
    obtain ⟨a, ha⟩ : ∃ a, cm.parents[((x : Int) - 1).toNat]? = some a := ⟨_, List.getElem?_eq_getElem (by omega)⟩
    obtain ⟨ad, rfl, hmb⟩ := hps _ b hb
    obtain ⟨ad', e, hma⟩ := hps _ a ha
    injection e with e; subst e
    refine CW.seq_testE 32 (0 < x ∧ lessB a b = false) ?_ ?_
    · refine CW.quiet (fun wq => Ext w2 wq) (by kernel_rfl) (by kernel_rfl) Chg.drew ?_
      refine QL.val (fun wq hq => Y.move rfl) (by decide) ?_   -- t16 := move t3
      refine QL.val (fun wq hq => Y.gtr rfl rfl) (by decide) ?_   -- t17 := binOp gtr 3 t16 c(0:i64) 3
      refine QL.val (fun wq hq => Y.move rfl) (by decide) ?_   -- t18 := move t17
      first | refine QL.casesD (d := 18) rfl (fun hg18 => ?_) (fun hg18 => ?_) | refine QL.casesND (d := 18) rfl (fun hg18 => ?_) (fun hg18 => ?_) | refine QL.cases (d := 18) rfl (fun hg18 => ?_) (fun hg18 => ?_)
      · -- t18 = T
        refine QL.gval rfl rfl (fun wq hq => Y.fieldAddr fo_apiCommit0 rfl) (by decide) ?_   -- t19 := fieldAddr 76 t1 0 [if 2=true]
        refine QL.gval rfl rfl (fun wq hq => Y.load1 Tryd.underlying29 rfl (hM1.ext hq).com0 rfl) (by decide) ?_   -- t20 := load 29 t19 [if 2=true]
        refine QL.gval rfl rfl (fun wq hq => Y.move rfl) (by decide) ?_   -- t21 := move t3 [if 2=true]
        refine QL.gval rfl rfl (fun wq hq => Y.sub rfl rfl ⟨by omega, by omega⟩) (by decide) ?_   -- t22 := binOp sub 3 t21 c(1:i64) 3 [if 2=true]
        refine QL.gval rfl rfl (fun wq hq => Y.indexAddr Tryd.underlying29 rfl rfl sz0_apiDigest (by omega) (by omega)) (by decide) ?_   -- t23 := indexAddr 29 t20 t22 [if 2=true]
        refine QL.gval rfl rfl (fun wq hq => Y.load Tryd.underlying31 rfl (hma.ext (hL2.thenExt hq)) (sz_apiDigest _) rfl) (by decide) ?_   -- t24 := load 31 t23 [if 2=true]
        refine QL.gval rfl rfl (fun wq hq => Y.fieldAddr fo_apiCommit0 rfl) (by decide) ?_   -- t25 := fieldAddr 76 t1 0 [if 2=true]
        refine QL.gval rfl rfl (fun wq hq => Y.load1 Tryd.underlying29 rfl (hM1.ext hq).com0 rfl) (by decide) ?_   -- t26 := load 29 t25 [if 2=true]
        refine QL.gval rfl rfl (fun wq hq => Y.move rfl) (by decide) ?_   -- t27 := move t3 [if 2=true]
        refine QL.gval rfl rfl (fun wq hq => Y.indexAddrN Tryd.underlying29 rfl rfl sz0_apiDigest (by omega)) (by decide) ?_   -- t28 := indexAddr 29 t26 t27 [if 2=true]
        refine QL.gval rfl rfl (fun wq hq => Y.load Tryd.underlying31 rfl (hmb.ext (hL2.thenExt hq)) (sz_apiDigest _) rfl) (by decide) ?_   -- t29 := load 31 t28 [if 2=true]
        refine QL.gcall rfl rfl Tryd.func49 rfl rfl rfl (fun wq hq => ret_ext (less_any _ _ _) hq) (by decide) ?_   -- t30 := call F49(t24, t29) : 31,31 [if 2=true]
        refine QL.gval rfl rfl (fun wq hq => Y.not rfl) (by decide) ?_   -- t31 := unOp not 4 t30 [if 2=true]
        refine QL.val (fun wq hq => Y.pick rfl rfl) (by decide) ?_   -- t32 := pick t18 t31 c(false)
        refine QL.nil fun wq hq => ⟨⟨_, rfl, ?_⟩, hq, (by repeat (first | exact Fr.le.refl | refine Fr.le.push rfl ?_))⟩
        first | (simp only [*, Int.natCast_inj, Bool.not_eq_true', decide_eq_false_iff_not, decide_eq_true_eq, not_true_eq_false, not_false_eq_true, true_and, false_and, and_true, and_false, false_or, or_false, true_or, or_true, iff_true, true_iff, iff_false, false_iff]; done) | (simp_all; done) | (refine congrArg Value.bool (Bool.eq_iff_iff.2 ?_); simp_all; done) | (simp_all; omega)
      · -- t18 = F
        refine QL.goff rfl rfl (by decide) ?_   -- t19 := fieldAddr 76 t1 0 [if 2=true]
        refine QL.goff rfl rfl (by decide) ?_   -- t20 := load 29 t19 [if 2=true]
        refine QL.goff rfl rfl (by decide) ?_   -- t21 := move t3 [if 2=true]
        refine QL.goff rfl rfl (by decide) ?_   -- t22 := binOp sub 3 t21 c(1:i64) 3 [if 2=true]
        refine QL.goff rfl rfl (by decide) ?_   -- t23 := indexAddr 29 t20 t22 [if 2=true]
        refine QL.goff rfl rfl (by decide) ?_   -- t24 := load 31 t23 [if 2=true]
        refine QL.goff rfl rfl (by decide) ?_   -- t25 := fieldAddr 76 t1 0 [if 2=true]
        refine QL.goff rfl rfl (by decide) ?_   -- t26 := load 29 t25 [if 2=true]
        refine QL.goff rfl rfl (by decide) ?_   -- t27 := move t3 [if 2=true]
        refine QL.goff rfl rfl (by decide) ?_   -- t28 := indexAddr 29 t26 t27 [if 2=true]
        refine QL.goff rfl rfl (by decide) ?_   -- t29 := load 31 t28 [if 2=true]
        refine QL.goff rfl rfl (by decide) ?_   -- t30 := call F49(t24, t29) : 31,31 [if 2=true]
        refine QL.goff rfl rfl (by decide) ?_   -- t31 := unOp not 4 t30 [if 2=true]
        refine QL.val (fun wq hq => Y.pick rfl rfl) (by decide) ?_   -- t32 := pick t18 t31 c(false)
        refine QL.nil fun wq hq => ⟨⟨_, rfl, ?_⟩, hq, (by repeat (first | exact Fr.le.refl | refine Fr.le.push rfl ?_))⟩
        first | (simp only [*, Int.natCast_inj, Bool.not_eq_true', decide_eq_false_iff_not, decide_eq_true_eq, not_true_eq_false, not_false_eq_true, true_and, false_and, and_true, and_false, false_or, or_false, true_or, or_true, iff_true, true_iff, iff_false, false_iff]; done) | (simp_all; done) | (refine congrArg Value.bool (Bool.eq_iff_iff.2 ?_); simp_all; done) | (simp_all; omega)
    intro w3 hx3; have hM1 := hM1.ext hx3
    first | refine CW.condD rfl (fun ht13 => ?_) (fun ht13 => ?_) | refine CW.condND rfl (fun ht13 => ?_) (fun ht13 => ?_) | refine CW.condN rfl (fun ht13 => ?_) (fun ht13 => ?_) | refine CW.cond rfl (fun ht13 => ?_) (fun ht13 => ?_)
    · -- then
      refine CW.seq fun K14 hK14 => ?_
      refine CW.region ?_   -- region 7
      refine WL.val (Y.assign rfl) (by decide) ?_   -- t2 := assign c(7:i64)
      refine WL.nil ?_
      refine hK14 _ _ ?_; try clear hK14 K14
      refine CW.ret ⟨_, rfl, ?_⟩
      exact ⟨by
        rw [mayI, if_neg (by omega), if_pos (Bool.eq_false_iff.2 fun h => ?_)]
        have h0 : ((x : Int) - 1).toNat + 1 = x := by omega
        have := (rising_iff _).1 h _ a b ha (by rw [h0]; exact hb)
        simp_all, (hL2.thenExt hx3)⟩
    -- else
    refine CW.skip ?_
    refine hK11 _ _ ?_; try clear hK11 K11
    refine CW.region ?_   -- region 8
    refine WL.val (Y.add rfl rfl ⟨by omega, by omega⟩) (by decide) ?_   -- t33 := binOp add 3 t13 c(1:i64) 3
    refine WL.val (Y.move rfl) (by decide) ?_   -- t13 := move t33
    refine WL.nil ?_
    refine ⟨x + 1, by omega, (Fr.le.cons rfl (Fr.le.cons rfl (Fr.le.cons rfl Fr.le.nil))), by omega, fun i p q h hp hq => ?_, (hL2.thenExt hx3), hM1⟩
    by_cases hix : i + 1 < x
    · exact hrs i p q hix hp hq
    · have h0 : i + 1 = x := by omega
      have h1 : ((x : Int) - 1).toNat = i := by omega
      rw [h1, hp] at ha; rw [← h0, hq] at hb
      injection ha with ha; injection hb with hb
      subst ha; subst hb
      cases hlb : lessB p q with
      | true => rfl
      | false => simp_all
  -- else
  refine CW.exit ?_   -- exit 0
  refine hK6 _ _ ?_; try clear hK6 K6
  refine CW.seq fun K15 hK15 => ?_
  refine CW.block ?_   -- block 2
  refine CW.seq fun K16 hK16 => ?_
  have hrise : risingB cm.parents = true := (rising_iff _).2 fun i p q hp hq => hrs i p q (by have := (List.getElem?_eq_some_iff.1 hq).1; omega) hp hq
  refine CW.region ?_   -- region 9
  refine WL.val (Y.fieldAddr fo_apiCommit1 rfl) (by decide) ?_   -- t35 := fieldAddr 76 t1 1
  refine WL.val (Y.load1 Tryd.underlying9 rfl hM1.com1 rfl) (by decide) ?_   -- t36 := load 9 t35
  refine WL.call Tryd.func75 rfl rfl rfl ((name_any _ _ hau)) (by simp) ?_; rintro v w4 ⟨rfl, hx4⟩; have hM1 := hM1.ext hx4   -- t37 := call F75(t36) : 9
  refine WL.val (Y.not rfl) (by decide) ?_   -- t38 := unOp not 4 t37
  refine WL.val (Y.assign rfl) (by decide) ?_   -- t34 := assign t38
  refine WL.nil ?_
  refine hK16 _ _ ?_; try clear hK16 K16
  first | refine CW.condD rfl (fun ht17 => ?_) (fun ht17 => ?_) | refine CW.condND rfl (fun ht17 => ?_) (fun ht17 => ?_) | refine CW.condN rfl (fun ht17 => ?_) (fun ht17 => ?_) | refine CW.cond rfl (fun ht17 => ?_) (fun ht17 => ?_)
  · -- then
    refine CW.seq fun K18 hK18 => ?_
    refine CW.region ?_   -- region 10
    refine WL.val (Y.assign rfl) (by decide) ?_   -- t2 := assign c(11:i64)
    refine WL.nil ?_
    refine hK18 _ _ ?_; try clear hK18 K18
    refine CW.ret ⟨_, rfl, ?_⟩
    exact ⟨by rw [mayI, if_neg (by omega), if_neg (by simp [hrise]), if_pos (by simp_all)], (hL2.thenExt hx4)⟩
  -- else
  refine CW.seq fun K19 hK19 => ?_
  refine CW.region ?_   -- region 11
  refine WL.val (Y.fieldAddr fo_apiCommit2 rfl) (by decide) ?_   -- t40 := fieldAddr 76 t1 2
  refine WL.val (Y.load1 Tryd.underlying9 rfl hM1.com2 rfl) (by decide) ?_   -- t41 := load 9 t40
  refine WL.val (Y.len_string Tryd.underlying9 rfl) (by decide) ?_   -- t42 := call len(t41) : 9
  refine WL.val (Y.gtr rfl rfl) (by decide) ?_   -- t43 := binOp gtr 3 t42 c(200:i64) 3
  refine WL.val (Y.assign rfl) (by decide) ?_   -- t39 := assign t43
  refine WL.nil ?_
  refine hK19 _ _ ?_; try clear hK19 K19
  first | refine CW.condD rfl (fun ht20 => ?_) (fun ht20 => ?_) | refine CW.condND rfl (fun ht20 => ?_) (fun ht20 => ?_) | refine CW.condN rfl (fun ht20 => ?_) (fun ht20 => ?_) | refine CW.cond rfl (fun ht20 => ?_) (fun ht20 => ?_)
  · -- then
    refine CW.seq fun K21 hK21 => ?_
    refine CW.region ?_   -- region 12
    refine WL.val (Y.assign rfl) (by decide) ?_   -- t2 := assign c(3:i64)
    refine WL.nil ?_
    refine hK21 _ _ ?_; try clear hK21 K21
    refine CW.ret ⟨_, rfl, ?_⟩
    exact ⟨by rw [mayI, if_neg (by omega), if_neg (by simp [hrise]), if_neg (by simp_all), if_pos (by omega)], (hL2.thenExt hx4)⟩
  -- else
  refine CW.seq fun K22 hK22 => ?_
  refine CW.region ?_   -- region 13
  refine WL.val (Y.fieldAddr fo_apiCommit3 rfl) (by decide) ?_   -- t45 := fieldAddr 76 t1 3
  refine WL.val (Y.load1 Tryd.underlying74 rfl hM1.com3 rfl) (by decide) ?_   -- t46 := load 74 t45
  refine WL.val (Y.len_slice Tryd.underlying74 rfl) (by decide) ?_   -- t47 := call len(t46) : 74
  refine WL.val (Y.gtr rfl rfl) (by decide) ?_   -- t48 := binOp gtr 3 t47 c(2000:i64) 3
  refine WL.val (Y.assign rfl) (by decide) ?_   -- t44 := assign t48
  refine WL.nil ?_
  refine hK22 _ _ ?_; try clear hK22 K22
  first | refine CW.condD rfl (fun ht23 => ?_) (fun ht23 => ?_) | refine CW.condND rfl (fun ht23 => ?_) (fun ht23 => ?_) | refine CW.condN rfl (fun ht23 => ?_) (fun ht23 => ?_) | refine CW.cond rfl (fun ht23 => ?_) (fun ht23 => ?_)
  · -- then
    refine CW.seq fun K24 hK24 => ?_
    refine CW.region ?_   -- region 14
    refine WL.val (Y.assign rfl) (by decide) ?_   -- t2 := assign c(4:i64)
    refine WL.nil ?_
    refine hK24 _ _ ?_; try clear hK24 K24
    refine CW.ret ⟨_, rfl, ?_⟩
    exact ⟨by rw [mayI, if_neg (by omega), if_neg (by simp [hrise]), if_neg (by simp_all), if_neg (by omega), if_pos (by omega)], (hL2.thenExt hx4)⟩
  -- else
  refine CW.skip ?_
  refine hK15 _ _ ?_; try clear hK15 K15
  refine CW.seq fun K25 hK25 => ?_
  refine CW.seq fun K26 hK26 => ?_
  have hm5 : mayI cm = opsErr cm.ops := by rw [mayI, if_neg (by omega), if_neg (by simp [hrise]), if_neg (by simp_all), if_neg (by omega), if_neg (by omega)]
  refine CW.region ?_   -- region 15
  refine WL.val (Y.fieldAddr fo_apiCommit3 rfl) (by decide) ?_   -- t49 := fieldAddr 76 t1 3
  refine WL.val (Y.load1 Tryd.underlying74 rfl hM1.com3 rfl) (by decide) ?_   -- t50 := load 74 t49
  refine WL.val (Y.len_slice Tryd.underlying74 rfl) (by decide) ?_   -- t51 := call len(t50) : 74
  refine WL.val (Y.move rfl) (by decide) ?_   -- t52 := move c(0:i64)
  refine WL.nil ?_
  refine hK26 _ _ ?_; try clear hK26 K26
  refine CW.block ?_   -- block 3
  refine CW.loop (X := Nat) (fun x => [(1, .pointer (some ⟨g1, 0, none⟩)), (51, .int .i64 (k : Int)), (52, .int .i64 (x : Int))]) (fun x w0 => x ≤ k ∧ (∀ j : Nat, j < x → rightI cm.ops (j + 1) = 0) ∧ Ext w w0 ∧ Mem w0 ⟨g1, 0, none⟩ (comC (.slice A m c) cm.author cm.note (.slice B k d))) (fun x => k - x) 0 (Fr.le.cons rfl (Fr.le.cons rfl (Fr.le.cons rfl Fr.le.nil))) ⟨by omega, fun j h => by omega, (hL2.thenExt hx4), hM1⟩ ?_
  intro x w5 hl5
  obtain ⟨hi, hrs, hL5, hM1⟩ := hl5
  refine CW.seq fun K27 hK27 => ?_
  refine CW.region ?_   -- region 16
  refine WL.val (Y.lss rfl rfl) (by decide) ?_   -- t53 := binOp lss 3 t52 t51 3
  refine WL.nil ?_
  refine hK27 _ _ ?_; try clear hK27 K27
  refine CW.seq fun K28 hK28 => ?_
  first | refine CW.condD rfl (fun ht29 => ?_) (fun ht29 => ?_) | refine CW.condND rfl (fun ht29 => ?_) (fun ht29 => ?_) | refine CW.condN rfl (fun ht29 => ?_) (fun ht29 => ?_) | refine CW.cond rfl (fun ht29 => ?_) (fun ht29 => ?_)
  · -- then
    refine CW.skip ?_
    refine hK28 _ _ ?_; try clear hK28 K28
    refine CW.seq fun K30 hK30 => ?_
    refine CW.block ?_   -- block 4
    refine CW.seq fun K31 hK31 => ?_
    refine CW.region ?_   -- region 17
    refine WL.val (Y.move rfl) (by decide) ?_   -- t54 := move t52
    refine WL.val (Y.assign rfl) (by decide) ?_   -- t4 := assign t54
    refine WL.nil ?_
    refine hK31 _ _ ?_; try clear hK31 K31
    refine CW.seq fun K32 hK32 => ?_
    refine CW.region ?_   -- region 18
    refine WL.val (Y.fieldAddr fo_apiCommit3 rfl) (by decide) ?_   -- t55 := fieldAddr 76 t1 3
    refine WL.val (Y.load1 Tryd.underlying74 rfl hM1.com3 rfl) (by decide) ?_   -- t56 := load 74 t55
    refine WL.val (Y.move rfl) (by decide) ?_   -- t57 := move t4
    refine WL.val (Y.add rfl rfl ⟨by omega, by omega⟩) (by decide) ?_   -- t58 := binOp add 3 t57 c(1:i64) 3
    refine WL.call Tryd.func76 rfl rfl rfl ((right_any _ _ _ _ (hoS.ext hL5) ⟨by omega, by omega⟩)) (by simp) ?_; rintro v w6 ⟨rfl, hx6⟩; have hM1 := hM1.ext hx6   -- t59 := call F76(t56, t58) : 74,3
    refine WL.val (Y.assign rfl) (by decide) ?_   -- t5 := assign t59
    refine WL.nil ?_
    refine hK32 _ _ ?_; try clear hK32 K32
    refine CW.seq fun K33 hK33 => ?_
    refine CW.region ?_   -- region 19
    refine WL.val (Y.move rfl) (by decide) ?_   -- t60 := move t5
    refine WL.val (Y.neq rfl rfl) (by decide) ?_   -- t61 := binOp neq 23 t60 c(0:i64) 23
    refine WL.nil ?_
    refine hK33 _ _ ?_; try clear hK33 K33
    first | refine CW.condD rfl (fun ht34 => ?_) (fun ht34 => ?_) | refine CW.condND rfl (fun ht34 => ?_) (fun ht34 => ?_) | refine CW.condN rfl (fun ht34 => ?_) (fun ht34 => ?_) | refine CW.cond rfl (fun ht34 => ?_) (fun ht34 => ?_)
    · -- then
      refine CW.seq fun K35 hK35 => ?_
      refine CW.region ?_   -- region 20
      refine WL.val (Y.move rfl) (by decide) ?_   -- t62 := move t5
      refine WL.val (Y.assign rfl) (by decide) ?_   -- t2 := assign t62
      refine WL.nil ?_
      refine hK35 _ _ ?_; try clear hK35 K35
      refine CW.ret ⟨_, rfl, ?_⟩
      exact ⟨by rw [hm5, opsErr_at hrs (by omega) (by assumption)], (hL5.thenExt hx6)⟩
    -- else
    refine CW.skip ?_
    refine hK30 _ _ ?_; try clear hK30 K30
    refine CW.region ?_   -- region 21
    refine WL.val (Y.add rfl rfl ⟨by omega, by omega⟩) (by decide) ?_   -- t63 := binOp add 3 t52 c(1:i64) 3
    refine WL.val (Y.move rfl) (by decide) ?_   -- t52 := move t63
    refine WL.nil ?_
    refine ⟨x + 1, by omega, (Fr.le.cons rfl (Fr.le.cons rfl (Fr.le.cons rfl Fr.le.nil))), by omega, fun j h => ?_, (hL5.thenExt hx6), hM1⟩
    by_cases hj : j < x
    · exact hrs j hj
    · obtain rfl : j = x := by omega
      simpa using (by assumption : ¬ rightI cm.ops ((j : Int) + 1) ≠ 0)
  -- else
  refine CW.exit ?_   -- exit 3
  refine hK25 _ _ ?_; try clear hK25 K25
  refine CW.seq fun K36 hK36 => ?_
  refine CW.region ?_   -- region 22
  refine WL.val (Y.assign rfl) (by decide) ?_   -- t2 := assign c(0:i64)
  refine WL.nil ?_
  refine hK36 _ _ ?_; try clear hK36 K36
  refine CW.ret ⟨_, rfl, ?_⟩
  exact ⟨by rw [hm5, opsErr_end (fun j h => hrs j (by omega))], hL5⟩
end Go.Proofs.YtoncdfpohdchgaaDoor
