/- GraphRises: the law's function, walked. No condition. -/
import Derived.Test.YtecolkngbcgmcaaHi
set_option linter.unusedSimpArgs false
set_option linter.unusedVariables false
namespace Go.Fw
open Go.RowKit
theorem Sl.takeS {α : Type} {w : World} {enc : α → List Value} {k : Nat} {A : Option Addr} {m c j : Nat} {xs : List α} (h : Sl w enc k (.slice A m c) xs) (hj : j ≤ m) : Sl w enc k (.slice A j c) (xs.take j) := by
  obtain ⟨A', m', c', he, hl, hmc, hcm, hx⟩ := h
  cases he
  refine ⟨A, j, c, rfl, by rw [List.length_take]; omega, by omega, hcm, fun i x hi => ?_⟩
  rw [List.getElem?_take] at hi
  split at hi
  · exact hx i x hi
  · cases hi
end Go.Fw
namespace Go.Pl
open Go.Fw
theorem filt_split (q : Dig → Bool) (o : List Dig) (i : Nat) : o.filter q = (o.take i).filter q ++ (o.drop i).filter q := by rw [← List.filter_append, List.take_append_drop]
theorem filt_yes {q : Dig → Bool} {o : List Dig} {i : Nat} {d : Dig} (hd : o[i]? = some d) (hq : q d = true) : (o.filter q)[((o.take i).filter q).length]? = some d ∧ ((o.take (i + 1)).filter q).length = ((o.take i).filter q).length + 1 := by
  obtain ⟨hlt, he⟩ := List.getElem?_eq_some_iff.1 hd
  constructor
  · rw [filt_split q o i, List.getElem?_append_right (Nat.le_refl _), Nat.sub_self, List.drop_eq_getElem_cons hlt, he, List.filter_cons, if_pos hq]; rfl
  · rw [take_succ hd, List.filter_append, List.length_append]; simp [hq]
theorem filt_no {q : Dig → Bool} {o : List Dig} {i : Nat} {d e : Dig} (hd : o[i]? = some d) (hq : ¬ q d = true) (he : (o.filter q)[((o.take i).filter q).length]? = some e) : d ≠ e ∧ ((o.take (i + 1)).filter q).length = ((o.take i).filter q).length := by
  constructor
  · rintro rfl
    exact hq (List.mem_filter.1 (List.mem_of_getElem? he)).2
  · rw [take_succ hd, List.filter_append, List.length_append]; simp [hq]
theorem not_before {o : List Dig} (h : o.Nodup) {i : Nat} {d : Dig} (hd : o[i]? = some d) : ¬ d ∈ o.take i := by
  intro hm
  obtain ⟨j, hj⟩ := List.mem_iff_getElem?.1 hm
  rw [List.getElem?_take] at hj
  split at hj
  · rename_i hlt
    have h1 := (List.getElem?_eq_some_iff.1 hj).1
    have := (List.getElem?_inj h1 h).1 (hj.trans hd.symm)
    omega
  · cases hj
end Go.Pl
namespace Go.Proofs.Ytecolkngbcgmcaa
open Go.RowKit Go.Fw Go.Pl Go.Sort

set_option maxHeartbeats 2000000 in
theorem graphRises_any (u v0 v1 : Value) (l : List NdV) (a b : List Dig) (w : World) (hl : Nds w u l) (ha : Sl w digC 32 v0 a) (hb : Sl w digC 32 v1 b) : Calls Try.prog 7 #[u, v0, v1] w (Ret (True_ w)) := by
  obtain ⟨A, c, rfl, hmc, hcm⟩ := hl.sl.lens
  unfold maxLen at hcm
  obtain ⟨A1, c1, rfl, hac, hax⟩ := ha.lens
  unfold maxLen at hax
  have hnl : (ndsL l).length = l.length := by simp
  refine calls_of_CW 127 [6] [(0, .slice A l.length c), (1, .slice A1 a.length c1), (2, v1)] Try.func7 rfl rfl rfl (by simp) args3 ?_
  have hE : Ext w w := Chg.refl
  refine CW.seq fun K1 hK1 => ?_
  refine CW.region ?_   -- region 0
  refine WL.val (Y.assign rfl) (by decide) ?_   -- t6 := assign c(false)
  refine WL.nil ?_
  refine hK1 _ _ ?_; try clear hK1 K1
  refine CW.seq fun K2 hK2 => ?_
  refine CW.region ?_   -- region 1
  refine WL.val (Y.move rfl) (by decide) ?_   -- t18 := move t0
  refine WL.val (Y.move rfl) (by decide) ?_   -- t19 := move t1
  refine WL.call Try.func22 rfl rfl rfl (gOrderX_any _ _ l a _ hl ha) (by simp) ?_; rintro v20 w1 hR1   -- t20 := call F22(t18, t19) : 22,23
  obtain ⟨hv1, rfl, hSO, hx1⟩ := hR1
  obtain ⟨o, ho⟩ : ∃ o, o = orX (ndsL l) a := ⟨_, rfl⟩
  rw [← ho] at hSO
  obtain ⟨AO, cO, rfl, hoc, hox⟩ := hSO.lens
  unfold maxLen at hox
  skip; have hz1 := hx1.size; have hE := hE.thenExt hx1; have hl := hl.ext hx1; have ha := ha.ext hx1; have hb := hb.ext hx1
  refine WL.val (Y.move rfl) (by decide) ?_   -- t17 := move t20
  refine WL.val (Y.extract rfl rfl) (by decide) ?_   -- t21 := extract t17 0
  refine WL.val (Y.extract rfl rfl) (by decide) ?_   -- t22 := extract t17 1
  refine WL.val (Y.assign rfl) (by decide) ?_   -- t7 := assign t21
  refine WL.val (Y.assign rfl) (by decide) ?_   -- t8 := assign t22
  refine WL.nil ?_
  refine hK2 _ _ ?_; try clear hK2 K2
  refine CW.seq fun K3 hK3 => ?_
  refine CW.region ?_   -- region 2
  refine WL.val (Y.move rfl) (by decide) ?_   -- t24 := move t0
  refine WL.val (Y.move rfl) (by decide) ?_   -- t25 := move t1
  refine WL.val (Y.move rfl) (by decide) ?_   -- t26 := move t2
  refine WL.call Try.func23 rfl rfl rfl (gLacksX_any _ _ _ l a b _ hl ha hb) (by simp) ?_; rintro v27 w2 hR2   -- t27 := call F23(t24, t25, t26) : 22,23,23
  obtain ⟨hv2, rfl, hSL, hx2⟩ := hR2
  obtain ⟨k, hk⟩ : ∃ k, k = laX (ndsL l) a b := ⟨_, rfl⟩
  rw [← hk] at hSL
  obtain ⟨AL, cL, rfl, hkc, hkx⟩ := hSL.lens
  unfold maxLen at hkx
  skip; have hz2 := hx2.size; have hE := hE.thenExt hx2; have hl := hl.ext hx2; have ha := ha.ext hx2; have hb := hb.ext hx2; have hSO := hSO.ext hx2
  refine WL.val (Y.move rfl) (by decide) ?_   -- t23 := move t27
  refine WL.val (Y.extract rfl rfl) (by decide) ?_   -- t28 := extract t23 0
  refine WL.val (Y.extract rfl rfl) (by decide) ?_   -- t29 := extract t23 1
  refine WL.val (Y.assign rfl) (by decide) ?_   -- t9 := assign t28
  refine WL.val (Y.assign rfl) (by decide) ?_   -- t10 := assign t29
  refine WL.nil ?_
  refine hK3 _ _ ?_; try clear hK3 K3
  refine CW.seq fun K4 hK4 => ?_
  refine CW.seq_test 35 (wrongQ (ndsL l) a ≠ 0 ∨ wrongQ (ndsL l) (a ++ b) ≠ 0) ?_ ?_
  · refine CW.region ?_
    refine WL.val (Y.move rfl) (by decide) ?_   -- t30 := move t8
    refine WL.val (Y.neq rfl rfl) (by decide) ?_   -- t31 := binOp neq 24 t30 c(0:i64) 24
    refine WL.val (Y.move rfl) (by decide) ?_   -- t32 := move t31
    first | refine WL.casesD (d := 32) rfl (fun hg32 => ?_) (fun hg32 => ?_) | refine WL.casesND (d := 32) rfl (fun hg32 => ?_) (fun hg32 => ?_) | refine WL.cases (d := 32) rfl (fun hg32 => ?_) (fun hg32 => ?_)
    · -- t32 = T
      refine WL.goff rfl rfl (by decide) ?_   -- t33 := move t10 [if 2=false]
      refine WL.goff rfl rfl (by decide) ?_   -- t34 := binOp neq 24 t33 c(0:i64) 24 [if 2=false]
      refine WL.val (Y.pick rfl rfl) (by decide) ?_   -- t35 := pick t32 c(true) t34
      refine WL.nil ⟨⟨_, rfl, ?_⟩, rfl, (by repeat (first | exact Fr.le.refl | refine Fr.le.push rfl ?_))⟩
      first | (simp only [*, Int.natCast_inj, Bool.not_eq_true', decide_eq_false_iff_not, decide_eq_true_eq, not_true_eq_false, not_false_eq_true, true_and, false_and, and_true, and_false, false_or, or_false, true_or, or_true, iff_true, true_iff, iff_false, false_iff]; done) | (simp_all; done) | (refine congrArg Value.bool (Bool.eq_iff_iff.2 ?_); simp_all; done) | (simp_all; omega)
    · -- t32 = F
      refine WL.gval rfl rfl (Y.move rfl) (by decide) ?_   -- t33 := move t10 [if 2=false]
      refine WL.gval rfl rfl (Y.neq rfl rfl) (by decide) ?_   -- t34 := binOp neq 24 t33 c(0:i64) 24 [if 2=false]
      refine WL.val (Y.pick rfl rfl) (by decide) ?_   -- t35 := pick t32 c(true) t34
      refine WL.nil ⟨⟨_, rfl, ?_⟩, rfl, (by repeat (first | exact Fr.le.refl | refine Fr.le.push rfl ?_))⟩
      first | (simp only [*, Int.natCast_inj, Bool.not_eq_true', decide_eq_false_iff_not, decide_eq_true_eq, not_true_eq_false, not_false_eq_true, true_and, false_and, and_true, and_false, false_or, or_false, true_or, or_true, iff_true, true_iff, iff_false, false_iff]; done) | (simp_all; done) | (refine congrArg Value.bool (Bool.eq_iff_iff.2 ?_); simp_all; done) | (simp_all; omega)
  first | refine CW.condD rfl (fun ht5 => ?_) (fun ht5 => ?_) | refine CW.condND rfl (fun ht5 => ?_) (fun ht5 => ?_) | refine CW.condN rfl (fun ht5 => ?_) (fun ht5 => ?_) | refine CW.cond rfl (fun ht5 => ?_) (fun ht5 => ?_)
  · -- then
    refine CW.seq fun K6 hK6 => ?_
    refine CW.region ?_   -- region 4
    refine WL.call Try.func18 rfl rfl rfl (alive_any _) (by simp) ?_; rintro v w3 ⟨rfl, hx3⟩; have hz3 := hx3.size; have hE := hE.thenExt hx3; have hl := hl.ext hx3; have ha := ha.ext hx3; have hb := hb.ext hx3; have hSO := hSO.ext hx3; have hSL := hSL.ext hx3   -- t36 := call F18() : 
    refine WL.val (Y.assign rfl) (by decide) ?_   -- t6 := assign t36
    refine WL.nil ?_
    refine hK6 _ _ ?_; try clear hK6 K6
    refine CW.ret ⟨_, rfl, ?_⟩
    exact ⟨rfl, hE⟩
  -- else
  refine CW.skip ?_
  refine hK4 _ _ ?_; try clear hK4 K4
  refine CW.seq fun K7 hK7 => ?_
  refine CW.seq fun K8 hK8 => ?_
  refine CW.region ?_   -- region 5
  refine WL.val (Y.assign rfl) (by decide) ?_   -- t11 := assign c(0:i64)
  refine WL.nil ?_
  refine hK8 _ _ ?_; try clear hK8 K8
  have hqa : wrongQ (ndsL l) a = 0 := by omega
  have hqb : wrongQ (ndsL l) (a ++ b) = 0 := by omega
  have hok := wrongQ_ok7 hqa
  have hia := wrongQ_in7 hqa
  have hib : ∀ d ∈ b, d ∈ idsL (ndsL l) := fun d hd => wrongQ_in7 hqb d (List.mem_append_right _ hd)
  rw [orX, if_pos hqa] at ho
  rw [laX, if_pos hqb, lacks_eq hok hia hib, ← ho] at hk
  obtain ⟨hc1, hc2⟩ := ordL_came hok hia
  rw [← ho] at hc1 hc2
  obtain ⟨q, hq0⟩ : ∃ q, q = fun d => !decide (d ∈ aboveL (ndsL l) b) := ⟨_, rfl⟩
  rw [← hq0] at hk
  have hl0 := hl
  have ha0 := ha
  have hb0 := hb
  have hSO0 := hSO
  have hSL0 := hSL
  refine CW.block ?_   -- block 0
  refine CW.loop (X := Nat) (fun x => [(0, .slice A l.length c), (1, .slice A1 a.length c1), (7, .slice AO o.length cO), (9, .slice AL k.length cL), (11, .int .i64 (x : Int))]) (fun x w0 => x ≤ o.length ∧ Ext w w0 ∧ Ext w2 w0) (fun x => o.length - x) 0 (by repeat (first | exact Fr.le.nil | refine Fr.le.cons rfl ?_)) ⟨Nat.zero_le _, hE, Chg.refl⟩ ?_
  intro x w4 hl4
  obtain ⟨i, rfl⟩ : ∃ i, i = x := ⟨x, rfl⟩
  clear hE hl ha hb hSO hSL
  obtain ⟨hil, hE, h2⟩ := hl4
  have hl := hl0.ext h2
  have ha := ha0.ext h2
  have hb := hb0.ext h2
  have hSO := hSO0.ext h2
  have hSL := hSL0.ext h2
  refine CW.seq fun K9 hK9 => ?_
  refine CW.seq fun K10 hK10 => ?_
  refine CW.region ?_   -- region 6
  refine WL.val (Y.move rfl) (by decide) ?_   -- t37 := move t11
  refine WL.val (Y.move rfl) (by decide) ?_   -- t38 := move t7
  refine WL.val (Y.len_slice Try.underlying23 rfl) (by decide) ?_   -- t39 := call len(t38) : 23
  refine WL.val (Y.lss rfl rfl) (by decide) ?_   -- t40 := binOp lss 3 t37 t39 3
  refine WL.nil ?_
  refine hK10 _ _ ?_; try clear hK10 K10
  first | refine CW.condD rfl (fun ht11 => ?_) (fun ht11 => ?_) | refine CW.condND rfl (fun ht11 => ?_) (fun ht11 => ?_) | refine CW.condN rfl (fun ht11 => ?_) (fun ht11 => ?_) | refine CW.cond rfl (fun ht11 => ?_) (fun ht11 => ?_)
  · -- then
    refine CW.skip ?_
    refine hK9 _ _ ?_; try clear hK9 K9
    refine CW.seq fun K12 hK12 => ?_
    refine CW.block ?_   -- block 1
    refine CW.seq fun K13 hK13 => ?_
    obtain ⟨d, hd⟩ : ∃ d, o[i]? = some d := ⟨_, List.getElem?_eq_getElem (by omega)⟩
    obtain ⟨aO, rfl, hmd⟩ := hSO0.at hd
    have hdi := under_ids hok hia ((above_mem hok hia).1 (hc1.isin d (List.mem_of_getElem? hd)))
    have hni := not_before hc1.once hd
    have hix := ixN_lt hdi
    obtain ⟨y, hy⟩ : ∃ y, l[ixN (ndsL l) d]? = some y := ⟨_, List.getElem?_eq_getElem (by omega)⟩
    have hyn : (ndsL l)[ixN (ndsL l) d]? = some y.n := by simp [hy]
    obtain ⟨⟨id, ps⟩, Ay, cy⟩ := y
    obtain ⟨aN, rfl, hmn⟩ := hl0.sl.at hy
    have hps := hl0.ps _ (List.mem_of_getElem? hy)
    dsimp only [NdV.pv] at hps hyn
    have hpar : parD (ndsL l) d = ps := by rw [parD, hyn]; rfl
    have hp8 : ps.length ≤ 8 := (wrong_ok (ok_at hok hyn)).1
    refine CW.region ?_   -- region 8
    refine WL.val (Y.move rfl) (by decide) ?_   -- t43 := move t0
    refine WL.val (Y.move rfl) (by decide) ?_   -- t44 := move t7
    refine WL.val (Y.move rfl) (by decide) ?_   -- t45 := move t11
    refine WL.val (Y.indexAddrN Try.underlying23 rfl rfl sz0_apiDigest (by omega)) (by decide) ?_   -- t46 := indexAddr 23 t44 t45
    refine WL.val (Y.load Try.underlying45 rfl (hmd.ext h2) (sz_apiDigest _) rfl) (by decide) ?_   -- t47 := load 45 t46
    refine WL.call Try.func26 rfl rfl rfl (rFindIn_any _ l d _ hl hdi) (by simp) ?_; rintro v w5 ⟨rfl, hx5⟩; have hz5 := hx5.size; have hE := hE.thenExt hx5; have hl := hl.ext hx5; have ha := ha.ext hx5; have hb := hb.ext hx5; have hSO := hSO.ext hx5; have hSL := hSL.ext hx5   -- t48 := call F26(t43, t47) : 22,45
    refine WL.val (Y.assign rfl) (by decide) ?_   -- t12 := assign t48
    refine WL.nil ?_
    refine hK13 _ _ ?_; try clear hK13 K13
    refine CW.seq fun K14 hK14 => ?_
    refine CW.seq_testE 60 (False) ?_ ?_
    · refine CW.quiet (fun wq => Ext w5 wq) (by kernel_rfl) (by kernel_rfl) Chg.drew ?_
      refine QL.val (fun wq hq => Y.move rfl) (by decide) ?_   -- t49 := move t12
      refine QL.val (fun wq hq => Y.lss rfl rfl) (by decide) ?_   -- t50 := binOp lss 3 t49 c(0:i64) 3
      refine QL.val (fun wq hq => Y.move rfl) (by decide) ?_   -- t51 := move t50
      refine QL.know (d := 51) (u := .bool false) rfl (by rw [decide_eq_false (by omega)]) ?_
      refine QL.gval rfl rfl (fun wq hq => Y.move rfl) (by decide) ?_   -- t52 := move t7 [if 2=false]
      refine QL.gval rfl rfl (fun wq hq => Y.move rfl) (by decide) ?_   -- t53 := move t11 [if 2=false]
      refine QL.gval rfl rfl (fun wq hq => Y.slice_hi Try.underlying23 rfl rfl sz0_apiDigest rfl (by omega)) (by decide) ?_   -- t54 := slice 23 t52 none t53 none [if 2=false]
      refine QL.gval rfl rfl (fun wq hq => Y.move rfl) (by decide) ?_   -- t55 := move t7 [if 2=false]
      refine QL.gval rfl rfl (fun wq hq => Y.move rfl) (by decide) ?_   -- t56 := move t11 [if 2=false]
      refine QL.gval rfl rfl (fun wq hq => Y.indexAddrN Try.underlying23 rfl rfl sz0_apiDigest (by omega)) (by decide) ?_   -- t57 := indexAddr 23 t55 t56 [if 2=false]
      refine QL.gval rfl rfl (fun wq hq => Y.load Try.underlying45 rfl (((hmd.ext h2).ext hx5).ext hq) (sz_apiDigest _) rfl) (by decide) ?_   -- t58 := load 45 t57 [if 2=false]
      refine QL.gcall rfl rfl Try.func27 rfl rfl rfl (fun wq hq => ret_ext (rIn_any _ (o.take i) d _ ((Sl.takeS hSO (by omega)).ext hq)) hq) (by decide) ?_   -- t59 := call F27(t54, t58) : 23,45 [if 2=false]
      refine QL.val (fun wq hq => Y.pick rfl rfl) (by decide) ?_   -- t60 := pick t51 c(true) t59
      refine QL.nil fun wq hq => ⟨⟨_, rfl, ?_⟩, hq, (by repeat (first | exact Fr.le.refl | refine Fr.le.push rfl ?_))⟩
      first | (simp only [*, Int.natCast_inj, Bool.not_eq_true', decide_eq_false_iff_not, decide_eq_true_eq, not_true_eq_false, not_false_eq_true, true_and, false_and, and_true, and_false, false_or, or_false, true_or, or_true, iff_true, true_iff, iff_false, false_iff]; done) | (simp_all; done) | (refine congrArg Value.bool (Bool.eq_iff_iff.2 ?_); simp_all; done) | (simp_all; omega)
    intro w6 hx6; have hz6 := hx6.size; have hE := hE.thenExt hx6; have hl := hl.ext hx6; have ha := ha.ext hx6; have hb := hb.ext hx6; have hSO := hSO.ext hx6; have hSL := hSL.ext hx6
    first | refine CW.condD rfl (fun ht15 => ?_) (fun ht15 => ?_) | refine CW.condND rfl (fun ht15 => ?_) (fun ht15 => ?_) | refine CW.condN rfl (fun ht15 => ?_) (fun ht15 => ?_) | refine CW.cond rfl (fun ht15 => ?_) (fun ht15 => ?_)
    · -- then
      refine CW.seq fun K16 hK16 => ?_
      refine CW.region ?_   -- region 10
      refine WL.val (Y.assign rfl) (by decide) ?_   -- t6 := assign c(false)
      refine WL.nil ?_
      refine hK16 _ _ ?_; try clear hK16 K16
      refine CW.ret ⟨_, rfl, ?_⟩
      exact (by assumption : False).elim
    -- else
    refine CW.skip ?_
    refine hK14 _ _ ?_; try clear hK14 K14
    refine CW.seq fun K17 hK17 => ?_
    refine CW.region ?_   -- region 11
    refine WL.val (Y.assign rfl) (by decide) ?_   -- t13 := assign c(0:i64)
    refine WL.nil ?_
    refine hK17 _ _ ?_; try clear hK17 K17
    refine CW.block ?_   -- block 2
    refine CW.loop (X := Nat) (fun x => [(0, .slice (some aN) l.length c), (1, .slice A1 a.length c1), (7, .slice (some aO) o.length cO), (9, .slice AL k.length cL), (11, .int .i64 (i : Int)), (12, .int .i64 ((ixN (ndsL l) d : Nat) : Int)), (13, .int .i64 (x : Int))]) (fun x w0 => x ≤ ps.length ∧ Ext w w0 ∧ Ext w2 w0) (fun x => ps.length - x) 0 (by repeat (first | exact Fr.le.nil | refine Fr.le.cons rfl ?_)) ⟨Nat.zero_le _, hE, (h2.thenExt hx5).thenExt hx6⟩ ?_
    intro x w7 hl7
    clear h2
    clear hE hl ha hb hSO hSL
    obtain ⟨hxl, hE, h2⟩ := hl7
    have hl := hl0.ext h2
    have ha := ha0.ext h2
    have hb := hb0.ext h2
    have hSO := hSO0.ext h2
    have hSL := hSL0.ext h2
    refine CW.seq fun K18 hK18 => ?_
    refine CW.seq fun K19 hK19 => ?_
    refine CW.region ?_   -- region 12
    refine WL.val (Y.move rfl) (by decide) ?_   -- t61 := move t13
    refine WL.val (Y.move rfl) (by decide) ?_   -- t62 := move t0
    refine WL.val (Y.move rfl) (by decide) ?_   -- t63 := move t12
    refine WL.val (Y.indexAddrN Try.underlying22 rfl rfl sz0_apiNode (by omega)) (by decide) ?_   -- t64 := indexAddr 22 t62 t63
    refine WL.val (Y.fieldAddr fo_apiNode1 rfl) (by decide) ?_   -- t65 := fieldAddr 48 t64 1
    refine WL.val (Y.load1 Try.underlying23 rfl (hmn.ext h2).node1 rfl) (by decide) ?_   -- t66 := load 23 t65
    refine WL.val (Y.len_slice Try.underlying23 rfl) (by decide) ?_   -- t67 := call len(t66) : 23
    refine WL.val (Y.lss rfl rfl) (by decide) ?_   -- t68 := binOp lss 3 t61 t67 3
    refine WL.nil ?_
    refine hK19 _ _ ?_; try clear hK19 K19
    first | refine CW.condD rfl (fun ht20 => ?_) (fun ht20 => ?_) | refine CW.condND rfl (fun ht20 => ?_) (fun ht20 => ?_) | refine CW.condN rfl (fun ht20 => ?_) (fun ht20 => ?_) | refine CW.cond rfl (fun ht20 => ?_) (fun ht20 => ?_)
    · -- then
      refine CW.skip ?_
      refine hK18 _ _ ?_; try clear hK18 K18
      refine CW.seq fun K21 hK21 => ?_
      refine CW.block ?_   -- block 3
      refine CW.seq fun K22 hK22 => ?_
      obtain ⟨p, hp⟩ : ∃ p, ps[x]? = some p := ⟨_, List.getElem?_eq_getElem (by omega)⟩
      obtain ⟨aP, rfl, hmp⟩ := hps.at hp
      have hpin : p ∈ o.take i := hc1.par i d hd p (by rw [hpar]; exact List.mem_of_getElem? hp)
      refine CW.quiet (fun wq => Ext w7 wq) (by kernel_rfl) (by kernel_rfl) Chg.drew ?_
      refine QL.val (fun wq hq => Y.move rfl) (by decide) ?_   -- t71 := move t7
      refine QL.val (fun wq hq => Y.move rfl) (by decide) ?_   -- t72 := move t11
      refine QL.val (fun wq hq => Y.slice_hi Try.underlying23 rfl rfl sz0_apiDigest rfl (by omega)) (by decide) ?_   -- t73 := slice 23 t71 none t72 none
      refine QL.val (fun wq hq => Y.move rfl) (by decide) ?_   -- t74 := move t0
      refine QL.val (fun wq hq => Y.move rfl) (by decide) ?_   -- t75 := move t12
      refine QL.val (fun wq hq => Y.indexAddrN Try.underlying22 rfl rfl sz0_apiNode (by omega)) (by decide) ?_   -- t76 := indexAddr 22 t74 t75
      refine QL.val (fun wq hq => Y.fieldAddr fo_apiNode1 rfl) (by decide) ?_   -- t77 := fieldAddr 48 t76 1
      refine QL.val (fun wq hq => Y.load1 Try.underlying23 rfl ((hmn.ext h2).ext hq).node1 rfl) (by decide) ?_   -- t78 := load 23 t77
      refine QL.val (fun wq hq => Y.move rfl) (by decide) ?_   -- t79 := move t13
      refine QL.val (fun wq hq => Y.indexAddrN Try.underlying23 rfl rfl sz0_apiDigest (by omega)) (by decide) ?_   -- t80 := indexAddr 23 t78 t79
      refine QL.val (fun wq hq => Y.load Try.underlying45 rfl ((hmp.ext h2).ext hq) (sz_apiDigest _) rfl) (by decide) ?_   -- t81 := load 45 t80
      refine QL.call Try.func27 rfl rfl rfl (fun wq hq => ret_ext (rIn_any _ (o.take i) p _ ((Sl.takeS hSO (by omega)).ext hq)) hq) (by simp) ?_   -- t82 := call F27(t73, t81) : 23,45
      refine QL.val (fun wq hq => Y.not rfl) (by decide) ?_   -- t83 := unOp not 4 t82
      refine QL.nil fun w8 hx8 => ?_
      have hz8 := hx8.size
      have hE := hE.thenExt hx8
      have hl := hl.ext hx8
      have ha := ha.ext hx8
      have hb := hb.ext hx8
      have hSO := hSO.ext hx8
      have hSL := hSL.ext hx8
      refine hK22 _ _ ?_; try clear hK22 K22
      first | refine CW.condD rfl (fun ht23 => ?_) (fun ht23 => ?_) | refine CW.condND rfl (fun ht23 => ?_) (fun ht23 => ?_) | refine CW.condN rfl (fun ht23 => ?_) (fun ht23 => ?_) | refine CW.cond rfl (fun ht23 => ?_) (fun ht23 => ?_)
      · -- then
        refine CW.seq fun K24 hK24 => ?_
        refine CW.region ?_   -- region 15
        refine WL.val (Y.assign rfl) (by decide) ?_   -- t6 := assign c(false)
        refine WL.nil ?_
        refine hK24 _ _ ?_; try clear hK24 K24
        refine CW.ret ⟨_, rfl, ?_⟩
        exfalso
        simp_all
      -- else
      refine CW.skip ?_
      refine hK21 _ _ ?_; try clear hK21 K21
      refine CW.region ?_   -- region 13
      refine WL.val (Y.move rfl) (by decide) ?_   -- t69 := move t13
      refine WL.val (Y.add rfl rfl ⟨by omega, by omega⟩) (by decide) ?_   -- t70 := binOp add 3 t69 c(1:i64) 3
      refine WL.val (Y.assign rfl) (by decide) ?_   -- t13 := assign t70
      refine WL.nil ?_
      exact ⟨x + 1, by show ps.length - (x + 1) < ps.length - x; omega, (by repeat (first | exact Fr.le.nil | refine Fr.le.cons rfl ?_)), by show x + 1 ≤ ps.length; omega, hE, h2.thenExt hx8⟩
    -- else
    refine CW.exit ?_   -- exit 2
    refine hK12 _ _ ?_; try clear hK12 K12
    refine CW.region ?_   -- region 7
    refine WL.val (Y.move rfl) (by decide) ?_   -- t41 := move t11
    refine WL.val (Y.add rfl rfl ⟨by omega, by omega⟩) (by decide) ?_   -- t42 := binOp add 3 t41 c(1:i64) 3
    refine WL.val (Y.assign rfl) (by decide) ?_   -- t11 := assign t42
    refine WL.nil ?_
    exact ⟨i + 1, by show o.length - (i + 1) < o.length - i; omega, (by repeat (first | exact Fr.le.nil | refine Fr.le.cons rfl ?_)), by show i + 1 ≤ o.length; omega, hE, h2⟩
  -- else
  refine CW.exit ?_   -- exit 0
  refine hK7 _ _ ?_; try clear hK7 K7
  refine CW.seq fun K25 hK25 => ?_
  refine CW.region ?_   -- region 16
  refine WL.val (Y.assign rfl) (by decide) ?_   -- t14 := assign c(0:i64)
  refine WL.nil ?_
  refine hK25 _ _ ?_; try clear hK25 K25
  refine CW.seq fun K26 hK26 => ?_
  refine CW.seq fun K27 hK27 => ?_
  refine CW.region ?_   -- region 17
  refine WL.val (Y.assign rfl) (by decide) ?_   -- t15 := assign c(0:i64)
  refine WL.nil ?_
  refine hK27 _ _ ?_; try clear hK27 K27
  refine CW.block ?_   -- block 4
  refine CW.loop (X := Nat × Nat) (fun x => [(0, .slice A l.length c), (1, .slice A1 a.length c1), (7, .slice AO o.length cO), (9, .slice AL k.length cL), (14, .int .i64 (x.2 : Int)), (15, .int .i64 (x.1 : Int))]) (fun x w0 => x.1 ≤ o.length ∧ x.2 = ((o.take x.1).filter q).length ∧ Ext w w0 ∧ Ext w2 w0) (fun x => o.length - x.1) (0, 0) (by repeat (first | exact Fr.le.nil | refine Fr.le.cons rfl ?_)) ⟨Nat.zero_le _, by simp, hE, h2⟩ ?_
  intro x w9 hl9
  clear h2
  obtain ⟨i, at_⟩ := x
  dsimp only at hl9 ⊢
  clear hE hl ha hb hSO hSL
  obtain ⟨hil, hat0, hE, h2⟩ := hl9
  have hl := hl0.ext h2
  have ha := ha0.ext h2
  have hb := hb0.ext h2
  have hSO := hSO0.ext h2
  have hSL := hSL0.ext h2
  refine CW.seq fun K28 hK28 => ?_
  refine CW.seq_test 93 (i < o.length ∧ at_ < k.length) ?_ ?_
  · refine CW.region ?_
    refine WL.val (Y.move rfl) (by decide) ?_   -- t84 := move t15
    refine WL.val (Y.move rfl) (by decide) ?_   -- t85 := move t7
    refine WL.val (Y.len_slice Try.underlying23 rfl) (by decide) ?_   -- t86 := call len(t85) : 23
    refine WL.val (Y.lss rfl rfl) (by decide) ?_   -- t87 := binOp lss 3 t84 t86 3
    refine WL.val (Y.move rfl) (by decide) ?_   -- t88 := move t87
    first | refine WL.casesD (d := 88) rfl (fun hg88 => ?_) (fun hg88 => ?_) | refine WL.casesND (d := 88) rfl (fun hg88 => ?_) (fun hg88 => ?_) | refine WL.cases (d := 88) rfl (fun hg88 => ?_) (fun hg88 => ?_)
    · -- t88 = T
      refine WL.gval rfl rfl (Y.move rfl) (by decide) ?_   -- t89 := move t14 [if 4=true]
      refine WL.gval rfl rfl (Y.move rfl) (by decide) ?_   -- t90 := move t9 [if 4=true]
      refine WL.gval rfl rfl (Y.len_slice Try.underlying23 rfl) (by decide) ?_   -- t91 := call len(t90) : 23 [if 4=true]
      refine WL.gval rfl rfl (Y.lss rfl rfl) (by decide) ?_   -- t92 := binOp lss 3 t89 t91 3 [if 4=true]
      refine WL.val (Y.pick rfl rfl) (by decide) ?_   -- t93 := pick t88 t92 c(false)
      refine WL.nil ⟨⟨_, rfl, ?_⟩, rfl, (by repeat (first | exact Fr.le.refl | refine Fr.le.push rfl ?_))⟩
      first | (simp only [*, Int.natCast_inj, Bool.not_eq_true', decide_eq_false_iff_not, decide_eq_true_eq, not_true_eq_false, not_false_eq_true, true_and, false_and, and_true, and_false, false_or, or_false, true_or, or_true, iff_true, true_iff, iff_false, false_iff]; done) | (simp_all; done) | (refine congrArg Value.bool (Bool.eq_iff_iff.2 ?_); simp_all; done) | (simp_all; omega)
    · -- t88 = F
      refine WL.goff rfl rfl (by decide) ?_   -- t89 := move t14 [if 4=true]
      refine WL.goff rfl rfl (by decide) ?_   -- t90 := move t9 [if 4=true]
      refine WL.goff rfl rfl (by decide) ?_   -- t91 := call len(t90) : 23 [if 4=true]
      refine WL.goff rfl rfl (by decide) ?_   -- t92 := binOp lss 3 t89 t91 3 [if 4=true]
      refine WL.val (Y.pick rfl rfl) (by decide) ?_   -- t93 := pick t88 t92 c(false)
      refine WL.nil ⟨⟨_, rfl, ?_⟩, rfl, (by repeat (first | exact Fr.le.refl | refine Fr.le.push rfl ?_))⟩
      first | (simp only [*, Int.natCast_inj, Bool.not_eq_true', decide_eq_false_iff_not, decide_eq_true_eq, not_true_eq_false, not_false_eq_true, true_and, false_and, and_true, and_false, false_or, or_false, true_or, or_true, iff_true, true_iff, iff_false, false_iff]; done) | (simp_all; done) | (refine congrArg Value.bool (Bool.eq_iff_iff.2 ?_); simp_all; done) | (simp_all; omega)
  first | refine CW.condD rfl (fun ht29 => ?_) (fun ht29 => ?_) | refine CW.condND rfl (fun ht29 => ?_) (fun ht29 => ?_) | refine CW.condN rfl (fun ht29 => ?_) (fun ht29 => ?_) | refine CW.cond rfl (fun ht29 => ?_) (fun ht29 => ?_)
  · -- then
    refine CW.skip ?_
    refine hK28 _ _ ?_; try clear hK28 K28
    obtain ⟨hlt1, hlt2⟩ : i < o.length ∧ at_ < k.length := by assumption
    obtain ⟨d, hd⟩ : ∃ d, o[i]? = some d := ⟨_, List.getElem?_eq_getElem hlt1⟩
    obtain ⟨e, he⟩ : ∃ e, k[at_]? = some e := ⟨_, List.getElem?_eq_getElem hlt2⟩
    obtain ⟨aO, rfl, hmd⟩ := hSO0.at hd
    obtain ⟨aL, rfl, hme⟩ := hSL0.at he
    refine CW.seq_to (X := Nat) (fun u => [(0, .slice A l.length c), (1, .slice A1 a.length c1), (7, .slice (some aO) o.length cO), (9, .slice (some aL) k.length cL), (14, .int .i64 (u : Int)), (15, .int .i64 (i : Int))]) (fun u w0 => u = ((o.take (i + 1)).filter q).length ∧ Ext w w0 ∧ Ext w2 w0) ?_ ?_
    · skip
      refine CW.block ?_   -- block 5
      refine CW.seq fun K31 hK31 => ?_
      refine CW.quiet (fun wq => Ext w9 wq) (by kernel_rfl) (by kernel_rfl) Chg.drew ?_
      refine QL.val (fun wq hq => Y.move rfl) (by decide) ?_   -- t96 := move t7
      refine QL.val (fun wq hq => Y.move rfl) (by decide) ?_   -- t97 := move t15
      refine QL.val (fun wq hq => Y.indexAddrN Try.underlying23 rfl rfl sz0_apiDigest (by omega)) (by decide) ?_   -- t98 := indexAddr 23 t96 t97
      refine QL.val (fun wq hq => Y.load Try.underlying45 rfl ((hmd.ext h2).ext hq) (sz_apiDigest _) rfl) (by decide) ?_   -- t99 := load 45 t98
      refine QL.val (fun wq hq => Y.move rfl) (by decide) ?_   -- t100 := move t9
      refine QL.val (fun wq hq => Y.move rfl) (by decide) ?_   -- t101 := move t14
      refine QL.val (fun wq hq => Y.indexAddrN Try.underlying23 rfl rfl sz0_apiDigest (by omega)) (by decide) ?_   -- t102 := indexAddr 23 t100 t101
      refine QL.val (fun wq hq => Y.load Try.underlying45 rfl ((hme.ext h2).ext hq) (sz_apiDigest _) rfl) (by decide) ?_   -- t103 := load 45 t102
      refine QL.val (fun wq hq => Y.eql_apiDigest rfl rfl) (by decide) ?_   -- t104 := binOp eql 45 t99 t103 45
      refine QL.nil fun w10 hx10 => ?_
      have hz10 := hx10.size
      have hE := hE.thenExt hx10
      have hl := hl.ext hx10
      have ha := ha.ext hx10
      have hb := hb.ext hx10
      have hSO := hSO.ext hx10
      have hSL := hSL.ext hx10
      refine hK31 _ _ ?_; try clear hK31 K31
      first | refine CW.condD rfl (fun ht32 => ?_) (fun ht32 => ?_) | refine CW.condND rfl (fun ht32 => ?_) (fun ht32 => ?_) | refine CW.condN rfl (fun ht32 => ?_) (fun ht32 => ?_) | refine CW.cond rfl (fun ht32 => ?_) (fun ht32 => ?_)
      · -- then
        refine CW.region ?_   -- region 21
        refine WL.val (Y.move rfl) (by decide) ?_   -- t105 := move t14
        refine WL.val (Y.add rfl rfl ⟨by omega, by omega⟩) (by decide) ?_   -- t106 := binOp add 3 t105 c(1:i64) 3
        refine WL.val (Y.assign rfl) (by decide) ?_   -- t14 := assign t106
        refine WL.nil ?_
        refine ⟨at_ + 1, (by repeat (first | exact Fr.le.nil | refine Fr.le.cons rfl ?_)), ?_, hE, h2.thenExt hx10⟩
        by_cases hqd : q d = true
        · rw [(filt_yes hd hqd).2, hat0]
        · rw [hat0, hk] at he
          exact absurd (by assumption) (filt_no hd hqd he).1
      -- else
      refine CW.skip ?_
      refine ⟨at_, (by repeat (first | exact Fr.le.nil | refine Fr.le.cons rfl ?_)), ?_, hE, h2.thenExt hx10⟩
      by_cases hqd : q d = true
      · rw [hat0, hk, (filt_yes hd hqd).1] at he
        exact absurd (Option.some.inj he) (by assumption)
      · rw [hat0, hk] at he
        rw [(filt_no hd hqd he).2, hat0]
    rintro u w11 hj11
    clear hE hl ha hb hSO hSL h2
    obtain ⟨hu, hE, h2⟩ := hj11
    refine CW.region ?_   -- region 19
    refine WL.val (Y.move rfl) (by decide) ?_   -- t94 := move t15
    refine WL.val (Y.add rfl rfl ⟨by omega, by omega⟩) (by decide) ?_   -- t95 := binOp add 3 t94 c(1:i64) 3
    refine WL.val (Y.assign rfl) (by decide) ?_   -- t15 := assign t95
    refine WL.nil ?_
    exact ⟨(i + 1, u), by show o.length - (i + 1) < o.length - i; omega, (by repeat (first | exact Fr.le.nil | refine Fr.le.cons rfl ?_)), by show i + 1 ≤ o.length; omega, hu, hE, h2⟩
  -- else
  refine CW.exit ?_   -- exit 4
  refine hK26 _ _ ?_; try clear hK26 K26
  refine CW.seq fun K33 hK33 => ?_
  refine CW.seq fun K34 hK34 => ?_
  refine CW.region ?_   -- region 22
  refine WL.val (Y.assign rfl) (by decide) ?_   -- t16 := assign c(0:i64)
  refine WL.nil ?_
  refine hK34 _ _ ?_; try clear hK34 K34
  have hat : at_ = k.length := by
    have h1 : ¬ (i < o.length ∧ at_ < k.length) := by assumption
    by_cases h3 : i < o.length
    · have h4 : ¬ at_ < k.length := fun h => h1 ⟨h3, h⟩
      have h5 : ((o.take i).filter q).length ≤ k.length := by rw [hk, filt_split q o i, List.length_append]; omega
      omega
    · rw [List.take_of_length_le (by omega)] at hat0
      rw [hat0, hk]
  refine CW.block ?_   -- block 6
  refine CW.loop (X := Nat) (fun x => [(0, .slice A l.length c), (1, .slice A1 a.length c1), (7, .slice AO o.length cO), (9, .slice AL k.length cL), (14, .int .i64 (at_ : Int)), (16, .int .i64 (x : Int))]) (fun x w0 => x ≤ a.length ∧ Ext w w0 ∧ Ext w2 w0) (fun x => a.length - x) 0 (by repeat (first | exact Fr.le.nil | refine Fr.le.cons rfl ?_)) ⟨Nat.zero_le _, hE, h2⟩ ?_
  intro x w12 hl12
  clear h2
  clear hE hl ha hb hSO hSL
  obtain ⟨hxl, hE, h2⟩ := hl12
  have hl := hl0.ext h2
  have ha := ha0.ext h2
  have hb := hb0.ext h2
  have hSO := hSO0.ext h2
  have hSL := hSL0.ext h2
  refine CW.seq fun K35 hK35 => ?_
  refine CW.seq fun K36 hK36 => ?_
  refine CW.region ?_   -- region 23
  refine WL.val (Y.move rfl) (by decide) ?_   -- t107 := move t16
  refine WL.val (Y.move rfl) (by decide) ?_   -- t108 := move t1
  refine WL.val (Y.len_slice Try.underlying23 rfl) (by decide) ?_   -- t109 := call len(t108) : 23
  refine WL.val (Y.lss rfl rfl) (by decide) ?_   -- t110 := binOp lss 3 t107 t109 3
  refine WL.nil ?_
  refine hK36 _ _ ?_; try clear hK36 K36
  first | refine CW.condD rfl (fun ht37 => ?_) (fun ht37 => ?_) | refine CW.condND rfl (fun ht37 => ?_) (fun ht37 => ?_) | refine CW.condN rfl (fun ht37 => ?_) (fun ht37 => ?_) | refine CW.cond rfl (fun ht37 => ?_) (fun ht37 => ?_)
  · -- then
    refine CW.skip ?_
    refine hK35 _ _ ?_; try clear hK35 K35
    refine CW.seq fun K38 hK38 => ?_
    refine CW.block ?_   -- block 7
    refine CW.seq fun K39 hK39 => ?_
    obtain ⟨d, hd⟩ : ∃ d, a[x]? = some d := ⟨_, List.getElem?_eq_getElem (by omega)⟩
    obtain ⟨aW, rfl, hmd⟩ := ha0.at hd
    have hdo : d ∈ o := hc2 d ((above_mem hok hia).2 ⟨d, List.mem_of_getElem? hd, .refl _⟩)
    refine CW.region ?_   -- region 25
    refine WL.val (Y.move rfl) (by decide) ?_   -- t113 := move t7
    refine WL.val (Y.move rfl) (by decide) ?_   -- t114 := move t1
    refine WL.val (Y.move rfl) (by decide) ?_   -- t115 := move t16
    refine WL.val (Y.indexAddrN Try.underlying23 rfl rfl sz0_apiDigest (by omega)) (by decide) ?_   -- t116 := indexAddr 23 t114 t115
    refine WL.val (Y.load Try.underlying45 rfl (hmd.ext h2) (sz_apiDigest _) rfl) (by decide) ?_   -- t117 := load 45 t116
    refine WL.call Try.func27 rfl rfl rfl (rIn_any _ o d _ hSO) (by simp) ?_; rintro v w13 ⟨rfl, hx13⟩; have hz13 := hx13.size; have hE := hE.thenExt hx13; have hl := hl.ext hx13; have ha := ha.ext hx13; have hb := hb.ext hx13; have hSO := hSO.ext hx13; have hSL := hSL.ext hx13   -- t118 := call F27(t113, t117) : 23,45
    refine WL.val (Y.not rfl) (by decide) ?_   -- t119 := unOp not 4 t118
    refine WL.nil ?_
    refine hK39 _ _ ?_; try clear hK39 K39
    first | refine CW.condD rfl (fun ht40 => ?_) (fun ht40 => ?_) | refine CW.condND rfl (fun ht40 => ?_) (fun ht40 => ?_) | refine CW.condN rfl (fun ht40 => ?_) (fun ht40 => ?_) | refine CW.cond rfl (fun ht40 => ?_) (fun ht40 => ?_)
    · -- then
      refine CW.seq fun K41 hK41 => ?_
      refine CW.region ?_   -- region 26
      refine WL.val (Y.assign rfl) (by decide) ?_   -- t6 := assign c(false)
      refine WL.nil ?_
      refine hK41 _ _ ?_; try clear hK41 K41
      refine CW.ret ⟨_, rfl, ?_⟩
      exfalso
      simp_all
    -- else
    refine CW.skip ?_
    refine hK38 _ _ ?_; try clear hK38 K38
    refine CW.region ?_   -- region 24
    refine WL.val (Y.move rfl) (by decide) ?_   -- t111 := move t16
    refine WL.val (Y.add rfl rfl ⟨by omega, by omega⟩) (by decide) ?_   -- t112 := binOp add 3 t111 c(1:i64) 3
    refine WL.val (Y.assign rfl) (by decide) ?_   -- t16 := assign t112
    refine WL.nil ?_
    exact ⟨x + 1, by show a.length - (x + 1) < a.length - x; omega, (by repeat (first | exact Fr.le.nil | refine Fr.le.cons rfl ?_)), by show x + 1 ≤ a.length; omega, hE, h2.thenExt hx13⟩
  -- else
  refine CW.exit ?_   -- exit 6
  refine hK33 _ _ ?_; try clear hK33 K33
  refine CW.seq fun K42 hK42 => ?_
  refine CW.region ?_   -- region 27
  refine WL.val (Y.move rfl) (by decide) ?_   -- t120 := move t14
  refine WL.val (Y.move rfl) (by decide) ?_   -- t121 := move t9
  refine WL.val (Y.len_slice Try.underlying23 rfl) (by decide) ?_   -- t122 := call len(t121) : 23
  refine WL.val (Y.eql rfl rfl) (by decide) ?_   -- t123 := binOp eql 3 t120 t122 3
  refine WL.val (Y.move rfl) (by decide) ?_   -- t124 := move t123
  refine WL.know (d := 124) (u := .bool true) rfl (by rw [decide_eq_true (by omega)]) ?_
  refine WL.gcall rfl rfl Try.func18 rfl rfl rfl (alive_any _) (by decide) ?_; rintro v w14 ⟨rfl, hx14⟩; have hz14 := hx14.size; have hE := hE.thenExt hx14; have hl := hl.ext hx14; have ha := ha.ext hx14; have hb := hb.ext hx14; have hSO := hSO.ext hx14; have hSL := hSL.ext hx14   -- t125 := call F18() :  [if 4=true]
  refine WL.val (Y.pick rfl rfl) (by decide) ?_   -- t126 := pick t124 t125 c(false)
  refine WL.val (Y.assign rfl) (by decide) ?_   -- t6 := assign t126
  refine WL.nil ?_
  refine hK42 _ _ ?_; try clear hK42 K42
  refine CW.ret ⟨_, rfl, ?_⟩
  exact ⟨rfl, hE⟩
end Go.Proofs.Ytecolkngbcgmcaa
