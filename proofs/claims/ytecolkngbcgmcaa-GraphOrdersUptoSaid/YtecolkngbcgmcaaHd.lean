/- GraphPartial, GraphMeets, GraphLattice: the laws' functions, walked. No condition. -/
import Derived.Test.YtecolkngbcgmcaaGs
set_option linter.unusedSimpArgs false
set_option linter.unusedVariables false
namespace Go.Pl
open Go.Fw
/-- The heads, or none where the IDs may not be. -/
abbrev hdX (l : List Nd) (ids : List Dig) : List Dig := if wrongQ l ids = 0 then hdL l ids else []
abbrev cmX (l : List Nd) (a b : List Dig) : List Dig := if wrongQ l (a ++ b) = 0 then cmL l a b else []
theorem app_in {l : List Nd} {a b : List Dig} (ha : ∀ d ∈ a, d ∈ idsL l) (hb : ∀ d ∈ b, d ∈ idsL l) : ∀ d ∈ a ++ b, d ∈ idsL l := fun d hd => by
  rcases List.mem_append.1 hd with hd | hd
  · exact ha d hd
  · exact hb d hd
theorem up_nodup {a : List Dig} (h : Up a) : a.Nodup := h.imp fun {a b} hab e => by subst e; rw [less_irrefl] at hab; cases hab
theorem hdL_len {l : List Nd} (h : (readE l).2 = 0) {ids : List Dig} (hin : ∀ d ∈ ids, d ∈ idsL l) : (hdL l ids).length ≤ 200 := by
  have h2 := nodup_le (b := idsL l) (up_nodup (heads_up h (In := mark0 l ids))) fun d hd => hin d (hdL_sub h hin hd)
  have h3 := ok_len h
  rw [List.length_map] at h2
  exact Nat.le_trans h2 h3
end Go.Pl
namespace Go.Proofs.Ytecolkngbcgmcaa
open Go.RowKit Go.Fw Go.Pl Go.Sort
section
variable (u va vb : Value) (l : List NdV) (a b : List Dig) (w : World) (hl : Nds w u l)
include hl
theorem gHeadsX_any (ha : Sl w digC 32 va a) : Calls Try.prog 14 #[u, va] w (Ret fun v w' => ∃ hv, v = .tuple #[hv, .int .i64 (wrongQ (ndsL l) a)] ∧ Sl w' digC 32 hv (hdX (ndsL l) a) ∧ Ext w w') :=
  (gHeads_any u va l a w hl ha).mono fun e w' he => by
    cases e with
    | returned v => obtain ⟨hv, rfl, hO, _, hx⟩ := he; exact ⟨hv, rfl, hO.sl digC_length (by decide), hx⟩
    | panicked c => exact he
    | outgrown => exact he
theorem gHeadsIn_any (hok : (readE (ndsL l)).2 = 0) (ha : Sl w digC 32 va a) (hia : ∀ d ∈ a, d ∈ idsL (ndsL l)) : Calls Try.prog 14 #[u, va] w (Ret fun v w' => ∃ hv, v = .tuple #[hv, .int .i64 0] ∧ Sl w' digC 32 hv (hdL (ndsL l) a) ∧ Ext w w') := by
  have h := gHeadsX_any u va l a w hl ha
  rwa [hdX, wrongQ_zero hok hia, if_pos rfl] at h
theorem gWithinIn_any (hok : (readE (ndsL l)).2 = 0) (ha : Sl w digC 32 va a) (hb : Sl w digC 32 vb b) (hia : ∀ d ∈ a, d ∈ idsL (ndsL l)) (hib : ∀ d ∈ b, d ∈ idsL (ndsL l)) : Calls Try.prog 29 #[u, va, vb] w (Ret fun v w' => v = .tuple #[.bool (wiB (ndsL l) a b), .int .i64 0] ∧ Ext w w') := by
  have h := gWithin_any u va vb l a b w hl ha hb
  rwa [wrongQ_zero hok (app_in hia hib), if_pos rfl] at h
theorem gCommonX_any (ha : Sl w digC 32 va a) (hb : Sl w digC 32 vb b) : Calls Try.prog 28 #[u, va, vb] w (Ret fun v w' => ∃ hv, v = .tuple #[hv, .int .i64 (wrongQ (ndsL l) (a ++ b))] ∧ Sl w' digC 32 hv (cmX (ndsL l) a b) ∧ Ext w w') :=
  (gCommon_any u va vb l a b w hl ha hb).mono fun e w' he => by
    cases e with
    | returned v => obtain ⟨hv, rfl, hO, _, hx⟩ := he; exact ⟨hv, rfl, hO.sl digC_length (by decide), hx⟩
    | panicked c => exact he
    | outgrown => exact he
end
theorem two_sl (u v0 : Value) (a b : List Dig) (w : World) (hl : Sl w digC 32 u a) (hd : Sl w digC 32 v0 b) (hp : (a.length + b.length) * 32 ≤ 140737488355328) : Calls Try.prog 19 #[u, v0] w (Ret fun v w' => Sl w' digC 32 v (a ++ b) ∧ Ext w w') :=
  (two_any u v0 a b w hl hd hp).mono fun e w' he => by
    cases e with
    | returned v => obtain ⟨hO, _, hx⟩ := he; exact ⟨hO.sl digC_length (by decide), hx⟩
    | panicked c => exact he
    | outgrown => exact he

set_option maxHeartbeats 1000000 in
theorem graphPartial_any (u : Value) (v0 v1 v2 : Value) (l : List NdV) (a b c : List Dig) (w : World) (hl : Nds w u l) (ha : Sl w digC 32 v0 a) (hb : Sl w digC 32 v1 b) (hc : Sl w digC 32 v2 c) : Calls Try.prog 9 #[u, .agg #[v0, v1, v2]] w (Ret (True_ w)) := by
  refine calls_of_CW 114 [4] [(0, u), (1, .agg #[v0, v1, v2])] Try.func9 rfl rfl rfl (by simp) args2 ?_
  have hE : Ext w w := Chg.refl
  refine CW.seq fun K1 hK1 => ?_
  refine CW.region ?_   -- region 0
  refine WL.box rfl rfl (by decide) fun g3 w1 hx1 hg3 hB3 => ?_   -- t3 := box 32 t1
  have hlt3 := hB3.lt; have hz1 := hx1.size
  have hM3 := hB3.mem; have hz1 := hx1.size; have hE := hE.thenExt hx1; have hl := hl.ext hx1; have ha := ha.ext hx1; have hb := hb.ext hx1; have hc := hc.ext hx1
  refine WL.val (Y.assign rfl) (by decide) ?_   -- t4 := assign c(false)
  refine WL.nil ?_
  refine hK1 _ _ ?_; try clear hK1 K1
  refine CW.seq fun K2 hK2 => ?_
  refine CW.region ?_   -- region 1
  refine WL.val (Y.move rfl) (by decide) ?_   -- t22 := move t0
  refine WL.val (Y.indexAddrAN (i := 0) Try.underlying32 rfl rfl sz0_sapiDigest (by decide)) (by decide) ?_   -- t23 := indexAddr 32 t3 c(0:i64)
  refine WL.val (Y.load1 Try.underlying23 rfl ((hB3).mem.cell 0 rfl) rfl) (by decide) ?_   -- t24 := load 23 t23
  refine WL.call Try.func14 rfl rfl rfl (gHeadsX_any _ _ l a _ hl ha) (by simp) ?_; rintro v25 w2 hR2   -- t25 := call F14(t22, t24) : 22,23
  obtain ⟨hv2, rfl, hSA, hx2⟩ := hR2
  skip; have hz2 := hx2.size; have hE := hE.thenExt hx2; have hl := hl.ext hx2; have ha := ha.ext hx2; have hb := hb.ext hx2; have hc := hc.ext hx2; have hB3 := hB3.ext hx2
  refine WL.val (Y.move rfl) (by decide) ?_   -- t21 := move t25
  refine WL.val (Y.extract rfl rfl) (by decide) ?_   -- t26 := extract t21 0
  refine WL.val (Y.extract rfl rfl) (by decide) ?_   -- t27 := extract t21 1
  refine WL.val (Y.assign rfl) (by decide) ?_   -- t5 := assign t26
  refine WL.val (Y.assign rfl) (by decide) ?_   -- t6 := assign t27
  refine WL.nil ?_
  refine hK2 _ _ ?_; try clear hK2 K2
  refine CW.seq fun K3 hK3 => ?_
  refine CW.region ?_   -- region 2
  refine WL.val (Y.move rfl) (by decide) ?_   -- t29 := move t0
  refine WL.val (Y.indexAddrAN (i := 1) Try.underlying32 rfl rfl sz0_sapiDigest (by decide)) (by decide) ?_   -- t30 := indexAddr 32 t3 c(1:i64)
  refine WL.val (Y.load1 Try.underlying23 rfl ((hB3).mem.cell 1 rfl) rfl) (by decide) ?_   -- t31 := load 23 t30
  refine WL.call Try.func14 rfl rfl rfl (gHeadsX_any _ _ l b _ hl hb) (by simp) ?_; rintro v32 w3 hR3   -- t32 := call F14(t29, t31) : 22,23
  obtain ⟨hv3, rfl, hSB, hx3⟩ := hR3
  skip; have hz3 := hx3.size; have hE := hE.thenExt hx3; have hl := hl.ext hx3; have ha := ha.ext hx3; have hb := hb.ext hx3; have hc := hc.ext hx3; have hB3 := hB3.ext hx3; have hSA := hSA.ext hx3
  refine WL.val (Y.move rfl) (by decide) ?_   -- t28 := move t32
  refine WL.val (Y.extract rfl rfl) (by decide) ?_   -- t33 := extract t28 0
  refine WL.val (Y.extract rfl rfl) (by decide) ?_   -- t34 := extract t28 1
  refine WL.val (Y.assign rfl) (by decide) ?_   -- t7 := assign t33
  refine WL.val (Y.assign rfl) (by decide) ?_   -- t8 := assign t34
  refine WL.nil ?_
  refine hK3 _ _ ?_; try clear hK3 K3
  refine CW.seq fun K4 hK4 => ?_
  refine CW.region ?_   -- region 3
  refine WL.val (Y.move rfl) (by decide) ?_   -- t36 := move t0
  refine WL.val (Y.indexAddrAN (i := 2) Try.underlying32 rfl rfl sz0_sapiDigest (by decide)) (by decide) ?_   -- t37 := indexAddr 32 t3 c(2:i64)
  refine WL.val (Y.load1 Try.underlying23 rfl ((hB3).mem.cell 2 rfl) rfl) (by decide) ?_   -- t38 := load 23 t37
  refine WL.call Try.func14 rfl rfl rfl (gHeadsX_any _ _ l c _ hl hc) (by simp) ?_; rintro v39 w4 hR4   -- t39 := call F14(t36, t38) : 22,23
  obtain ⟨hv4, rfl, hSC, hx4⟩ := hR4
  skip; have hz4 := hx4.size; have hE := hE.thenExt hx4; have hl := hl.ext hx4; have ha := ha.ext hx4; have hb := hb.ext hx4; have hc := hc.ext hx4; have hB3 := hB3.ext hx4; have hSA := hSA.ext hx4; have hSB := hSB.ext hx4
  refine WL.val (Y.move rfl) (by decide) ?_   -- t35 := move t39
  refine WL.val (Y.extract rfl rfl) (by decide) ?_   -- t40 := extract t35 0
  refine WL.val (Y.extract rfl rfl) (by decide) ?_   -- t41 := extract t35 1
  refine WL.val (Y.assign rfl) (by decide) ?_   -- t9 := assign t40
  refine WL.val (Y.assign rfl) (by decide) ?_   -- t10 := assign t41
  refine WL.nil ?_
  refine hK4 _ _ ?_; try clear hK4 K4
  refine CW.seq fun K5 hK5 => ?_
  refine CW.seq_test 51 (wrongQ (ndsL l) a ≠ 0 ∨ wrongQ (ndsL l) b ≠ 0 ∨ wrongQ (ndsL l) c ≠ 0) ?_ ?_
  · refine CW.region ?_
    refine WL.val (Y.move rfl) (by decide) ?_   -- t42 := move t6
    refine WL.val (Y.neq rfl rfl) (by decide) ?_   -- t43 := binOp neq 24 t42 c(0:i64) 24
    refine WL.val (Y.move rfl) (by decide) ?_   -- t44 := move t43
    first | refine WL.casesD (d := 44) rfl (fun hg44 => ?_) (fun hg44 => ?_) | refine WL.casesND (d := 44) rfl (fun hg44 => ?_) (fun hg44 => ?_) | refine WL.cases (d := 44) rfl (fun hg44 => ?_) (fun hg44 => ?_)
    · -- t44 = T
      refine WL.goff rfl rfl (by decide) ?_   -- t45 := move t8 [if 2=false]
      refine WL.goff rfl rfl (by decide) ?_   -- t46 := binOp neq 24 t45 c(0:i64) 24 [if 2=false]
      refine WL.val (Y.pick rfl rfl) (by decide) ?_   -- t47 := pick t44 c(true) t46
      refine WL.val (Y.move rfl) (by decide) ?_   -- t48 := move t47
      refine WL.goff rfl rfl (by decide) ?_   -- t49 := move t10 [if 6=false]
      refine WL.goff rfl rfl (by decide) ?_   -- t50 := binOp neq 24 t49 c(0:i64) 24 [if 6=false]
      refine WL.val (Y.pick rfl rfl) (by decide) ?_   -- t51 := pick t48 c(true) t50
      refine WL.nil ⟨⟨_, rfl, ?_⟩, rfl, (by repeat (first | exact Fr.le.refl | refine Fr.le.push rfl ?_))⟩
      first | (simp only [*, Int.natCast_inj, Bool.not_eq_true', decide_eq_false_iff_not, decide_eq_true_eq, not_true_eq_false, not_false_eq_true, true_and, false_and, and_true, and_false, false_or, or_false, true_or, or_true, iff_true, true_iff, iff_false, false_iff]; done) | (simp_all; done) | (refine congrArg Value.bool (Bool.eq_iff_iff.2 ?_); simp_all; done) | (simp_all; omega)
    · -- t44 = F
      refine WL.gval rfl rfl (Y.move rfl) (by decide) ?_   -- t45 := move t8 [if 2=false]
      refine WL.gval rfl rfl (Y.neq rfl rfl) (by decide) ?_   -- t46 := binOp neq 24 t45 c(0:i64) 24 [if 2=false]
      refine WL.val (Y.pick rfl rfl) (by decide) ?_   -- t47 := pick t44 c(true) t46
      refine WL.val (Y.move rfl) (by decide) ?_   -- t48 := move t47
      first | refine WL.casesD (d := 48) rfl (fun hg48 => ?_) (fun hg48 => ?_) | refine WL.casesND (d := 48) rfl (fun hg48 => ?_) (fun hg48 => ?_) | refine WL.cases (d := 48) rfl (fun hg48 => ?_) (fun hg48 => ?_)
      · -- t48 = T
        refine WL.goff rfl rfl (by decide) ?_   -- t49 := move t10 [if 6=false]
        refine WL.goff rfl rfl (by decide) ?_   -- t50 := binOp neq 24 t49 c(0:i64) 24 [if 6=false]
        refine WL.val (Y.pick rfl rfl) (by decide) ?_   -- t51 := pick t48 c(true) t50
        refine WL.nil ⟨⟨_, rfl, ?_⟩, rfl, (by repeat (first | exact Fr.le.refl | refine Fr.le.push rfl ?_))⟩
        first | (simp only [*, Int.natCast_inj, Bool.not_eq_true', decide_eq_false_iff_not, decide_eq_true_eq, not_true_eq_false, not_false_eq_true, true_and, false_and, and_true, and_false, false_or, or_false, true_or, or_true, iff_true, true_iff, iff_false, false_iff]; done) | (simp_all; done) | (refine congrArg Value.bool (Bool.eq_iff_iff.2 ?_); simp_all; done) | (simp_all; omega)
      · -- t48 = F
        refine WL.gval rfl rfl (Y.move rfl) (by decide) ?_   -- t49 := move t10 [if 6=false]
        refine WL.gval rfl rfl (Y.neq rfl rfl) (by decide) ?_   -- t50 := binOp neq 24 t49 c(0:i64) 24 [if 6=false]
        refine WL.val (Y.pick rfl rfl) (by decide) ?_   -- t51 := pick t48 c(true) t50
        refine WL.nil ⟨⟨_, rfl, ?_⟩, rfl, (by repeat (first | exact Fr.le.refl | refine Fr.le.push rfl ?_))⟩
        first | (simp only [*, Int.natCast_inj, Bool.not_eq_true', decide_eq_false_iff_not, decide_eq_true_eq, not_true_eq_false, not_false_eq_true, true_and, false_and, and_true, and_false, false_or, or_false, true_or, or_true, iff_true, true_iff, iff_false, false_iff]; done) | (simp_all; done) | (refine congrArg Value.bool (Bool.eq_iff_iff.2 ?_); simp_all; done) | (simp_all; omega)
  first | refine CW.condD rfl (fun ht6 => ?_) (fun ht6 => ?_) | refine CW.condND rfl (fun ht6 => ?_) (fun ht6 => ?_) | refine CW.condN rfl (fun ht6 => ?_) (fun ht6 => ?_) | refine CW.cond rfl (fun ht6 => ?_) (fun ht6 => ?_)
  · -- then
    refine CW.seq fun K7 hK7 => ?_
    refine CW.region ?_   -- region 5
    refine WL.call Try.func18 rfl rfl rfl (alive_any _) (by simp) ?_; rintro v w5 ⟨rfl, hx5⟩; have hz5 := hx5.size; have hE := hE.thenExt hx5; have hl := hl.ext hx5; have ha := ha.ext hx5; have hb := hb.ext hx5; have hc := hc.ext hx5; have hB3 := hB3.ext hx5; have hSA := hSA.ext hx5; have hSB := hSB.ext hx5; have hSC := hSC.ext hx5   -- t52 := call F18() : 
    refine WL.val (Y.assign rfl) (by decide) ?_   -- t4 := assign t52
    refine WL.nil ?_
    refine hK7 _ _ ?_; try clear hK7 K7
    refine CW.ret ⟨_, rfl, ?_⟩
    exact ⟨rfl, hE⟩
  -- else
  refine CW.skip ?_
  refine hK5 _ _ ?_; try clear hK5 K5
  refine CW.seq fun K8 hK8 => ?_
  have hqa : wrongQ (ndsL l) a = 0 := by omega
  have hqb : wrongQ (ndsL l) b = 0 := by omega
  have hqc : wrongQ (ndsL l) c = 0 := by omega
  have hok := wrongQ_ok7 hqa
  have hia := wrongQ_in7 hqa
  have hib := wrongQ_in7 hqb
  have hic := wrongQ_in7 hqc
  rw [hdX, if_pos hqa] at hSA
  rw [hdX, if_pos hqb] at hSB
  rw [hdX, if_pos hqc] at hSC
  have hA : ∀ d ∈ hdL (ndsL l) a, d ∈ idsL (ndsL l) := fun d hd => hia d (hdL_sub hok hia hd)
  have hB : ∀ d ∈ hdL (ndsL l) b, d ∈ idsL (ndsL l) := fun d hd => hib d (hdL_sub hok hib hd)
  have hC : ∀ d ∈ hdL (ndsL l) c, d ∈ idsL (ndsL l) := fun d hd => hic d (hdL_sub hok hic hd)
  have hEq := partial_eq hok hia hib
  refine CW.region ?_   -- region 6
  refine WL.val (Y.move rfl) (by decide) ?_   -- t54 := move t0
  refine WL.val (Y.move rfl) (by decide) ?_   -- t55 := move t5
  refine WL.val (Y.move rfl) (by decide) ?_   -- t56 := move t7
  refine WL.call Try.func29 rfl rfl rfl (gWithinIn_any _ _ _ l (hdL (ndsL l) a) (hdL (ndsL l) b) _ hl hok hSA hSB hA hB) (by simp) ?_; rintro v w6 ⟨rfl, hx6⟩; have hz6 := hx6.size; have hE := hE.thenExt hx6; have hl := hl.ext hx6; have ha := ha.ext hx6; have hb := hb.ext hx6; have hc := hc.ext hx6; have hB3 := hB3.ext hx6; have hSA := hSA.ext hx6; have hSB := hSB.ext hx6; have hSC := hSC.ext hx6   -- t57 := call F29(t54, t55, t56) : 22,23,23
  refine WL.val (Y.move rfl) (by decide) ?_   -- t53 := move t57
  refine WL.val (Y.extract rfl rfl) (by decide) ?_   -- t58 := extract t53 0
  refine WL.val (Y.extract rfl rfl) (by decide) ?_   -- t59 := extract t53 1
  refine WL.val (Y.assign rfl) (by decide) ?_   -- t11 := assign t58
  refine WL.val (Y.assign rfl) (by decide) ?_   -- t12 := assign t59
  refine WL.nil ?_
  refine hK8 _ _ ?_; try clear hK8 K8
  refine CW.seq fun K9 hK9 => ?_
  refine CW.region ?_   -- region 7
  refine WL.val (Y.move rfl) (by decide) ?_   -- t61 := move t0
  refine WL.val (Y.move rfl) (by decide) ?_   -- t62 := move t7
  refine WL.val (Y.move rfl) (by decide) ?_   -- t63 := move t5
  refine WL.call Try.func29 rfl rfl rfl (gWithinIn_any _ _ _ l (hdL (ndsL l) b) (hdL (ndsL l) a) _ hl hok hSB hSA hB hA) (by simp) ?_; rintro v w7 ⟨rfl, hx7⟩; have hz7 := hx7.size; have hE := hE.thenExt hx7; have hl := hl.ext hx7; have ha := ha.ext hx7; have hb := hb.ext hx7; have hc := hc.ext hx7; have hB3 := hB3.ext hx7; have hSA := hSA.ext hx7; have hSB := hSB.ext hx7; have hSC := hSC.ext hx7   -- t64 := call F29(t61, t62, t63) : 22,23,23
  refine WL.val (Y.move rfl) (by decide) ?_   -- t60 := move t64
  refine WL.val (Y.extract rfl rfl) (by decide) ?_   -- t65 := extract t60 0
  refine WL.val (Y.extract rfl rfl) (by decide) ?_   -- t66 := extract t60 1
  refine WL.val (Y.assign rfl) (by decide) ?_   -- t13 := assign t65
  refine WL.val (Y.assign rfl) (by decide) ?_   -- t14 := assign t66
  refine WL.nil ?_
  refine hK9 _ _ ?_; try clear hK9 K9
  refine CW.seq fun K10 hK10 => ?_
  refine CW.region ?_   -- region 8
  refine WL.val (Y.move rfl) (by decide) ?_   -- t68 := move t0
  refine WL.val (Y.move rfl) (by decide) ?_   -- t69 := move t7
  refine WL.val (Y.move rfl) (by decide) ?_   -- t70 := move t9
  refine WL.call Try.func29 rfl rfl rfl (gWithinIn_any _ _ _ l (hdL (ndsL l) b) (hdL (ndsL l) c) _ hl hok hSB hSC hB hC) (by simp) ?_; rintro v w8 ⟨rfl, hx8⟩; have hz8 := hx8.size; have hE := hE.thenExt hx8; have hl := hl.ext hx8; have ha := ha.ext hx8; have hb := hb.ext hx8; have hc := hc.ext hx8; have hB3 := hB3.ext hx8; have hSA := hSA.ext hx8; have hSB := hSB.ext hx8; have hSC := hSC.ext hx8   -- t71 := call F29(t68, t69, t70) : 22,23,23
  refine WL.val (Y.move rfl) (by decide) ?_   -- t67 := move t71
  refine WL.val (Y.extract rfl rfl) (by decide) ?_   -- t72 := extract t67 0
  refine WL.val (Y.extract rfl rfl) (by decide) ?_   -- t73 := extract t67 1
  refine WL.val (Y.assign rfl) (by decide) ?_   -- t15 := assign t72
  refine WL.val (Y.assign rfl) (by decide) ?_   -- t16 := assign t73
  refine WL.nil ?_
  refine hK10 _ _ ?_; try clear hK10 K10
  refine CW.seq fun K11 hK11 => ?_
  refine CW.region ?_   -- region 9
  refine WL.val (Y.move rfl) (by decide) ?_   -- t75 := move t0
  refine WL.val (Y.move rfl) (by decide) ?_   -- t76 := move t5
  refine WL.val (Y.move rfl) (by decide) ?_   -- t77 := move t9
  refine WL.call Try.func29 rfl rfl rfl (gWithinIn_any _ _ _ l (hdL (ndsL l) a) (hdL (ndsL l) c) _ hl hok hSA hSC hA hC) (by simp) ?_; rintro v w9 ⟨rfl, hx9⟩; have hz9 := hx9.size; have hE := hE.thenExt hx9; have hl := hl.ext hx9; have ha := ha.ext hx9; have hb := hb.ext hx9; have hc := hc.ext hx9; have hB3 := hB3.ext hx9; have hSA := hSA.ext hx9; have hSB := hSB.ext hx9; have hSC := hSC.ext hx9   -- t78 := call F29(t75, t76, t77) : 22,23,23
  refine WL.val (Y.move rfl) (by decide) ?_   -- t74 := move t78
  refine WL.val (Y.extract rfl rfl) (by decide) ?_   -- t79 := extract t74 0
  refine WL.val (Y.extract rfl rfl) (by decide) ?_   -- t80 := extract t74 1
  refine WL.val (Y.assign rfl) (by decide) ?_   -- t17 := assign t79
  refine WL.val (Y.assign rfl) (by decide) ?_   -- t18 := assign t80
  refine WL.nil ?_
  refine hK11 _ _ ?_; try clear hK11 K11
  refine CW.seq fun K12 hK12 => ?_
  refine CW.region ?_   -- region 10
  refine WL.val (Y.move rfl) (by decide) ?_   -- t82 := move t0
  refine WL.val (Y.indexAddrAN (i := 0) Try.underlying32 rfl rfl sz0_sapiDigest (by decide)) (by decide) ?_   -- t83 := indexAddr 32 t3 c(0:i64)
  refine WL.val (Y.load1 Try.underlying23 rfl ((hB3).mem.cell 0 rfl) rfl) (by decide) ?_   -- t84 := load 23 t83
  refine WL.val (Y.move rfl) (by decide) ?_   -- t85 := move t5
  refine WL.call Try.func29 rfl rfl rfl (gWithinIn_any _ _ _ l a (hdL (ndsL l) a) _ hl hok ha hSA hia hA) (by simp) ?_; rintro v w10 ⟨rfl, hx10⟩; have hz10 := hx10.size; have hE := hE.thenExt hx10; have hl := hl.ext hx10; have ha := ha.ext hx10; have hb := hb.ext hx10; have hc := hc.ext hx10; have hB3 := hB3.ext hx10; have hSA := hSA.ext hx10; have hSB := hSB.ext hx10; have hSC := hSC.ext hx10   -- t86 := call F29(t82, t84, t85) : 22,23,23
  refine WL.val (Y.move rfl) (by decide) ?_   -- t81 := move t86
  refine WL.val (Y.extract rfl rfl) (by decide) ?_   -- t87 := extract t81 0
  refine WL.val (Y.extract rfl rfl) (by decide) ?_   -- t88 := extract t81 1
  refine WL.val (Y.assign rfl) (by decide) ?_   -- t19 := assign t87
  refine WL.val (Y.assign rfl) (by decide) ?_   -- t20 := assign t88
  refine WL.nil ?_
  refine hK12 _ _ ?_; try clear hK12 K12
  refine CW.seq fun K13 hK13 => ?_
  refine CW.region ?_   -- region 11
  refine WL.val (Y.move rfl) (by decide) ?_   -- t89 := move t19
  refine WL.val (Y.move rfl) (by decide) ?_   -- t90 := move t89
  refine WL.know (d := 90) (u := .bool true) rfl (by rw [partial_self hok hia]; rfl) ?_
  refine WL.gval rfl rfl (Y.move rfl) (by decide) ?_   -- t91 := move t11 [if 1=true]
  refine WL.gval rfl rfl (Y.not rfl) (by decide) ?_   -- t92 := unOp not 4 t91 [if 1=true]
  refine WL.gval rfl rfl (Y.move rfl) (by decide) ?_   -- t93 := move t92 [if 1=true]
  first | refine WL.casesD (d := 93) rfl (fun hg93 => ?_) (fun hg93 => ?_) | refine WL.casesND (d := 93) rfl (fun hg93 => ?_) (fun hg93 => ?_) | refine WL.cases (d := 93) rfl (fun hg93 => ?_) (fun hg93 => ?_)
  · -- t93 = T
    refine WL.goff rfl rfl (by decide) ?_   -- t94 := move t15 [if 4=false]
    refine WL.goff rfl rfl (by decide) ?_   -- t95 := unOp not 4 t94 [if 4=false]
    refine WL.gval rfl rfl (Y.pick rfl rfl) (by decide) ?_   -- t96 := pick t93 c(true) t95 [if 1=true]
    refine WL.gval rfl rfl (Y.move rfl) (by decide) ?_   -- t97 := move t96 [if 1=true]
    refine WL.goff rfl rfl (by decide) ?_   -- t98 := move t17 [if 8=false]
    refine WL.gval rfl rfl (Y.pick rfl rfl) (by decide) ?_   -- t99 := pick t97 c(true) t98 [if 1=true]
    refine WL.val (Y.pick rfl rfl) (by decide) ?_   -- t100 := pick t90 t99 c(false)
    refine WL.val (Y.move rfl) (by decide) ?_   -- t101 := move t100
    refine WL.gval rfl rfl (Y.move rfl) (by decide) ?_   -- t102 := move t11 [if 12=true]
    refine WL.gval rfl rfl (Y.move rfl) (by decide) ?_   -- t103 := move t102 [if 12=true]
    first | refine WL.casesD (d := 103) rfl (fun hg103 => ?_) (fun hg103 => ?_) | refine WL.casesND (d := 103) rfl (fun hg103 => ?_) (fun hg103 => ?_) | refine WL.cases (d := 103) rfl (fun hg103 => ?_) (fun hg103 => ?_)
    · -- t103 = T
      refine WL.gval rfl rfl (Y.move rfl) (by decide) ?_   -- t104 := move t13 [if 14=true]
      refine WL.gval rfl rfl (Y.pick rfl rfl) (by decide) ?_   -- t105 := pick t103 t104 c(false) [if 12=true]
      refine WL.gval rfl rfl (Y.move rfl) (by decide) ?_   -- t106 := move t5 [if 12=true]
      refine WL.gval rfl rfl (Y.move rfl) (by decide) ?_   -- t107 := move t7 [if 12=true]
      refine WL.gcall rfl rfl Try.func17 rfl rfl rfl (rSameD_any _ _ _ _ _ hSA hSB) (by decide) ?_; rintro v w11 ⟨rfl, hx11⟩; have hz11 := hx11.size; have hE := hE.thenExt hx11; have hl := hl.ext hx11; have ha := ha.ext hx11; have hb := hb.ext hx11; have hc := hc.ext hx11; have hB3 := hB3.ext hx11; have hSA := hSA.ext hx11; have hSB := hSB.ext hx11; have hSC := hSC.ext hx11   -- t108 := call F17(t106, t107) : 23,23 [if 12=true]
      refine WL.gval rfl rfl (Y.eql_bool Try.underlying4 rfl rfl) (by decide) ?_   -- t109 := binOp eql 4 t105 t108 4 [if 12=true]
      refine WL.val (Y.pick rfl rfl) (by decide) ?_   -- t110 := pick t101 t109 c(false)
      refine WL.val (Y.move rfl) (by decide) ?_   -- t111 := move t110
      refine WL.know (d := 111) (u := .bool true) rfl (by rw [← hEq]; simp [hg103]) ?_
      refine WL.gcall rfl rfl Try.func18 rfl rfl rfl (alive_any _) (by decide) ?_; rintro v w12 ⟨rfl, hx12⟩; have hz12 := hx12.size; have hE := hE.thenExt hx12; have hl := hl.ext hx12; have ha := ha.ext hx12; have hb := hb.ext hx12; have hc := hc.ext hx12; have hB3 := hB3.ext hx12; have hSA := hSA.ext hx12; have hSB := hSB.ext hx12; have hSC := hSC.ext hx12   -- t112 := call F18() :  [if 22=true]
      refine WL.val (Y.pick rfl rfl) (by decide) ?_   -- t113 := pick t111 t112 c(false)
      refine WL.val (Y.assign rfl) (by decide) ?_   -- t4 := assign t113
      refine WL.nil ?_
      refine hK13 _ _ ?_; try clear hK13 K13
      refine CW.ret ⟨_, rfl, ?_⟩
      exact ⟨rfl, hE⟩
    · -- t103 = F
      refine WL.goff rfl rfl (by decide) ?_   -- t104 := move t13 [if 14=true]
      refine WL.gval rfl rfl (Y.pick rfl rfl) (by decide) ?_   -- t105 := pick t103 t104 c(false) [if 12=true]
      refine WL.gval rfl rfl (Y.move rfl) (by decide) ?_   -- t106 := move t5 [if 12=true]
      refine WL.gval rfl rfl (Y.move rfl) (by decide) ?_   -- t107 := move t7 [if 12=true]
      refine WL.gcall rfl rfl Try.func17 rfl rfl rfl (rSameD_any _ _ _ _ _ hSA hSB) (by decide) ?_; rintro v w13 ⟨rfl, hx13⟩; have hz13 := hx13.size; have hE := hE.thenExt hx13; have hl := hl.ext hx13; have ha := ha.ext hx13; have hb := hb.ext hx13; have hc := hc.ext hx13; have hB3 := hB3.ext hx13; have hSA := hSA.ext hx13; have hSB := hSB.ext hx13; have hSC := hSC.ext hx13   -- t108 := call F17(t106, t107) : 23,23 [if 12=true]
      refine WL.gval rfl rfl (Y.eql_bool Try.underlying4 rfl rfl) (by decide) ?_   -- t109 := binOp eql 4 t105 t108 4 [if 12=true]
      refine WL.val (Y.pick rfl rfl) (by decide) ?_   -- t110 := pick t101 t109 c(false)
      refine WL.val (Y.move rfl) (by decide) ?_   -- t111 := move t110
      refine WL.know (d := 111) (u := .bool true) rfl (by rw [← hEq]; simp [hg103]) ?_
      refine WL.gcall rfl rfl Try.func18 rfl rfl rfl (alive_any _) (by decide) ?_; rintro v w14 ⟨rfl, hx14⟩; have hz14 := hx14.size; have hE := hE.thenExt hx14; have hl := hl.ext hx14; have ha := ha.ext hx14; have hb := hb.ext hx14; have hc := hc.ext hx14; have hB3 := hB3.ext hx14; have hSA := hSA.ext hx14; have hSB := hSB.ext hx14; have hSC := hSC.ext hx14   -- t112 := call F18() :  [if 22=true]
      refine WL.val (Y.pick rfl rfl) (by decide) ?_   -- t113 := pick t111 t112 c(false)
      refine WL.val (Y.assign rfl) (by decide) ?_   -- t4 := assign t113
      refine WL.nil ?_
      refine hK13 _ _ ?_; try clear hK13 K13
      refine CW.ret ⟨_, rfl, ?_⟩
      exact ⟨rfl, hE⟩
  · -- t93 = F
    refine WL.gval rfl rfl (Y.move rfl) (by decide) ?_   -- t94 := move t15 [if 4=false]
    refine WL.gval rfl rfl (Y.not rfl) (by decide) ?_   -- t95 := unOp not 4 t94 [if 4=false]
    refine WL.gval rfl rfl (Y.pick rfl rfl) (by decide) ?_   -- t96 := pick t93 c(true) t95 [if 1=true]
    refine WL.gval rfl rfl (Y.move rfl) (by decide) ?_   -- t97 := move t96 [if 1=true]
    first | refine WL.casesD (d := 97) rfl (fun hg97 => ?_) (fun hg97 => ?_) | refine WL.casesND (d := 97) rfl (fun hg97 => ?_) (fun hg97 => ?_) | refine WL.cases (d := 97) rfl (fun hg97 => ?_) (fun hg97 => ?_)
    · -- t97 = T
      refine WL.goff rfl rfl (by decide) ?_   -- t98 := move t17 [if 8=false]
      refine WL.gval rfl rfl (Y.pick rfl rfl) (by decide) ?_   -- t99 := pick t97 c(true) t98 [if 1=true]
      refine WL.val (Y.pick rfl rfl) (by decide) ?_   -- t100 := pick t90 t99 c(false)
      refine WL.val (Y.move rfl) (by decide) ?_   -- t101 := move t100
      refine WL.gval rfl rfl (Y.move rfl) (by decide) ?_   -- t102 := move t11 [if 12=true]
      refine WL.gval rfl rfl (Y.move rfl) (by decide) ?_   -- t103 := move t102 [if 12=true]
      first | refine WL.casesD (d := 103) rfl (fun hg103 => ?_) (fun hg103 => ?_) | refine WL.casesND (d := 103) rfl (fun hg103 => ?_) (fun hg103 => ?_) | refine WL.cases (d := 103) rfl (fun hg103 => ?_) (fun hg103 => ?_)
      · -- t103 = T
        refine WL.gval rfl rfl (Y.move rfl) (by decide) ?_   -- t104 := move t13 [if 14=true]
        refine WL.gval rfl rfl (Y.pick rfl rfl) (by decide) ?_   -- t105 := pick t103 t104 c(false) [if 12=true]
        refine WL.gval rfl rfl (Y.move rfl) (by decide) ?_   -- t106 := move t5 [if 12=true]
        refine WL.gval rfl rfl (Y.move rfl) (by decide) ?_   -- t107 := move t7 [if 12=true]
        refine WL.gcall rfl rfl Try.func17 rfl rfl rfl (rSameD_any _ _ _ _ _ hSA hSB) (by decide) ?_; rintro v w15 ⟨rfl, hx15⟩; have hz15 := hx15.size; have hE := hE.thenExt hx15; have hl := hl.ext hx15; have ha := ha.ext hx15; have hb := hb.ext hx15; have hc := hc.ext hx15; have hB3 := hB3.ext hx15; have hSA := hSA.ext hx15; have hSB := hSB.ext hx15; have hSC := hSC.ext hx15   -- t108 := call F17(t106, t107) : 23,23 [if 12=true]
        refine WL.gval rfl rfl (Y.eql_bool Try.underlying4 rfl rfl) (by decide) ?_   -- t109 := binOp eql 4 t105 t108 4 [if 12=true]
        refine WL.val (Y.pick rfl rfl) (by decide) ?_   -- t110 := pick t101 t109 c(false)
        refine WL.val (Y.move rfl) (by decide) ?_   -- t111 := move t110
        refine WL.know (d := 111) (u := .bool true) rfl (by rw [← hEq]; simp [hg103]) ?_
        refine WL.gcall rfl rfl Try.func18 rfl rfl rfl (alive_any _) (by decide) ?_; rintro v w16 ⟨rfl, hx16⟩; have hz16 := hx16.size; have hE := hE.thenExt hx16; have hl := hl.ext hx16; have ha := ha.ext hx16; have hb := hb.ext hx16; have hc := hc.ext hx16; have hB3 := hB3.ext hx16; have hSA := hSA.ext hx16; have hSB := hSB.ext hx16; have hSC := hSC.ext hx16   -- t112 := call F18() :  [if 22=true]
        refine WL.val (Y.pick rfl rfl) (by decide) ?_   -- t113 := pick t111 t112 c(false)
        refine WL.val (Y.assign rfl) (by decide) ?_   -- t4 := assign t113
        refine WL.nil ?_
        refine hK13 _ _ ?_; try clear hK13 K13
        refine CW.ret ⟨_, rfl, ?_⟩
        exact ⟨rfl, hE⟩
      · -- t103 = F
        refine WL.goff rfl rfl (by decide) ?_   -- t104 := move t13 [if 14=true]
        refine WL.gval rfl rfl (Y.pick rfl rfl) (by decide) ?_   -- t105 := pick t103 t104 c(false) [if 12=true]
        refine WL.gval rfl rfl (Y.move rfl) (by decide) ?_   -- t106 := move t5 [if 12=true]
        refine WL.gval rfl rfl (Y.move rfl) (by decide) ?_   -- t107 := move t7 [if 12=true]
        refine WL.gcall rfl rfl Try.func17 rfl rfl rfl (rSameD_any _ _ _ _ _ hSA hSB) (by decide) ?_; rintro v w17 ⟨rfl, hx17⟩; have hz17 := hx17.size; have hE := hE.thenExt hx17; have hl := hl.ext hx17; have ha := ha.ext hx17; have hb := hb.ext hx17; have hc := hc.ext hx17; have hB3 := hB3.ext hx17; have hSA := hSA.ext hx17; have hSB := hSB.ext hx17; have hSC := hSC.ext hx17   -- t108 := call F17(t106, t107) : 23,23 [if 12=true]
        refine WL.gval rfl rfl (Y.eql_bool Try.underlying4 rfl rfl) (by decide) ?_   -- t109 := binOp eql 4 t105 t108 4 [if 12=true]
        refine WL.val (Y.pick rfl rfl) (by decide) ?_   -- t110 := pick t101 t109 c(false)
        refine WL.val (Y.move rfl) (by decide) ?_   -- t111 := move t110
        refine WL.know (d := 111) (u := .bool true) rfl (by rw [← hEq]; simp [hg103]) ?_
        refine WL.gcall rfl rfl Try.func18 rfl rfl rfl (alive_any _) (by decide) ?_; rintro v w18 ⟨rfl, hx18⟩; have hz18 := hx18.size; have hE := hE.thenExt hx18; have hl := hl.ext hx18; have ha := ha.ext hx18; have hb := hb.ext hx18; have hc := hc.ext hx18; have hB3 := hB3.ext hx18; have hSA := hSA.ext hx18; have hSB := hSB.ext hx18; have hSC := hSC.ext hx18   -- t112 := call F18() :  [if 22=true]
        refine WL.val (Y.pick rfl rfl) (by decide) ?_   -- t113 := pick t111 t112 c(false)
        refine WL.val (Y.assign rfl) (by decide) ?_   -- t4 := assign t113
        refine WL.nil ?_
        refine hK13 _ _ ?_; try clear hK13 K13
        refine CW.ret ⟨_, rfl, ?_⟩
        exact ⟨rfl, hE⟩
    · -- t97 = F
      refine WL.gval rfl rfl (Y.move rfl) (by decide) ?_   -- t98 := move t17 [if 8=false]
      refine WL.gval rfl rfl (Y.pick rfl rfl) (by decide) ?_   -- t99 := pick t97 c(true) t98 [if 1=true]
      refine WL.val (Y.pick rfl rfl) (by decide) ?_   -- t100 := pick t90 t99 c(false)
      refine WL.val (Y.move rfl) (by decide) ?_   -- t101 := move t100
      refine WL.know (d := 101) (u := .bool true) rfl (by first | rfl | (rw [partial_trans hok hA hB hC (by simpa using hg93) (by simpa using hg97)]; rfl)) ?_
      refine WL.gval rfl rfl (Y.move rfl) (by decide) ?_   -- t102 := move t11 [if 12=true]
      refine WL.gval rfl rfl (Y.move rfl) (by decide) ?_   -- t103 := move t102 [if 12=true]
      first | refine WL.casesD (d := 103) rfl (fun hg103 => ?_) (fun hg103 => ?_) | refine WL.casesND (d := 103) rfl (fun hg103 => ?_) (fun hg103 => ?_) | refine WL.cases (d := 103) rfl (fun hg103 => ?_) (fun hg103 => ?_)
      · -- t103 = T
        refine WL.gval rfl rfl (Y.move rfl) (by decide) ?_   -- t104 := move t13 [if 14=true]
        refine WL.gval rfl rfl (Y.pick rfl rfl) (by decide) ?_   -- t105 := pick t103 t104 c(false) [if 12=true]
        refine WL.gval rfl rfl (Y.move rfl) (by decide) ?_   -- t106 := move t5 [if 12=true]
        refine WL.gval rfl rfl (Y.move rfl) (by decide) ?_   -- t107 := move t7 [if 12=true]
        refine WL.gcall rfl rfl Try.func17 rfl rfl rfl (rSameD_any _ _ _ _ _ hSA hSB) (by decide) ?_; rintro v w19 ⟨rfl, hx19⟩; have hz19 := hx19.size; have hE := hE.thenExt hx19; have hl := hl.ext hx19; have ha := ha.ext hx19; have hb := hb.ext hx19; have hc := hc.ext hx19; have hB3 := hB3.ext hx19; have hSA := hSA.ext hx19; have hSB := hSB.ext hx19; have hSC := hSC.ext hx19   -- t108 := call F17(t106, t107) : 23,23 [if 12=true]
        refine WL.gval rfl rfl (Y.eql_bool Try.underlying4 rfl rfl) (by decide) ?_   -- t109 := binOp eql 4 t105 t108 4 [if 12=true]
        refine WL.val (Y.pick rfl rfl) (by decide) ?_   -- t110 := pick t101 t109 c(false)
        refine WL.val (Y.move rfl) (by decide) ?_   -- t111 := move t110
        refine WL.know (d := 111) (u := .bool true) rfl (by rw [← hEq]; simp [hg103]) ?_
        refine WL.gcall rfl rfl Try.func18 rfl rfl rfl (alive_any _) (by decide) ?_; rintro v w20 ⟨rfl, hx20⟩; have hz20 := hx20.size; have hE := hE.thenExt hx20; have hl := hl.ext hx20; have ha := ha.ext hx20; have hb := hb.ext hx20; have hc := hc.ext hx20; have hB3 := hB3.ext hx20; have hSA := hSA.ext hx20; have hSB := hSB.ext hx20; have hSC := hSC.ext hx20   -- t112 := call F18() :  [if 22=true]
        refine WL.val (Y.pick rfl rfl) (by decide) ?_   -- t113 := pick t111 t112 c(false)
        refine WL.val (Y.assign rfl) (by decide) ?_   -- t4 := assign t113
        refine WL.nil ?_
        refine hK13 _ _ ?_; try clear hK13 K13
        refine CW.ret ⟨_, rfl, ?_⟩
        exact ⟨rfl, hE⟩
      · -- t103 = F
        refine WL.goff rfl rfl (by decide) ?_   -- t104 := move t13 [if 14=true]
        refine WL.gval rfl rfl (Y.pick rfl rfl) (by decide) ?_   -- t105 := pick t103 t104 c(false) [if 12=true]
        refine WL.gval rfl rfl (Y.move rfl) (by decide) ?_   -- t106 := move t5 [if 12=true]
        refine WL.gval rfl rfl (Y.move rfl) (by decide) ?_   -- t107 := move t7 [if 12=true]
        refine WL.gcall rfl rfl Try.func17 rfl rfl rfl (rSameD_any _ _ _ _ _ hSA hSB) (by decide) ?_; rintro v w21 ⟨rfl, hx21⟩; have hz21 := hx21.size; have hE := hE.thenExt hx21; have hl := hl.ext hx21; have ha := ha.ext hx21; have hb := hb.ext hx21; have hc := hc.ext hx21; have hB3 := hB3.ext hx21; have hSA := hSA.ext hx21; have hSB := hSB.ext hx21; have hSC := hSC.ext hx21   -- t108 := call F17(t106, t107) : 23,23 [if 12=true]
        refine WL.gval rfl rfl (Y.eql_bool Try.underlying4 rfl rfl) (by decide) ?_   -- t109 := binOp eql 4 t105 t108 4 [if 12=true]
        refine WL.val (Y.pick rfl rfl) (by decide) ?_   -- t110 := pick t101 t109 c(false)
        refine WL.val (Y.move rfl) (by decide) ?_   -- t111 := move t110
        refine WL.know (d := 111) (u := .bool true) rfl (by rw [← hEq]; simp [hg103]) ?_
        refine WL.gcall rfl rfl Try.func18 rfl rfl rfl (alive_any _) (by decide) ?_; rintro v w22 ⟨rfl, hx22⟩; have hz22 := hx22.size; have hE := hE.thenExt hx22; have hl := hl.ext hx22; have ha := ha.ext hx22; have hb := hb.ext hx22; have hc := hc.ext hx22; have hB3 := hB3.ext hx22; have hSA := hSA.ext hx22; have hSB := hSB.ext hx22; have hSC := hSC.ext hx22   -- t112 := call F18() :  [if 22=true]
        refine WL.val (Y.pick rfl rfl) (by decide) ?_   -- t113 := pick t111 t112 c(false)
        refine WL.val (Y.assign rfl) (by decide) ?_   -- t4 := assign t113
        refine WL.nil ?_
        refine hK13 _ _ ?_; try clear hK13 K13
        refine CW.ret ⟨_, rfl, ?_⟩
        exact ⟨rfl, hE⟩
set_option maxHeartbeats 1000000 in
theorem graphMeets_any (u : Value) (v0 v1 v2 : Value) (l : List NdV) (a b c : List Dig) (w : World) (hl : Nds w u l) (ha : Sl w digC 32 v0 a) (hb : Sl w digC 32 v1 b) (hc : Sl w digC 32 v2 c) : Calls Try.prog 10 #[u, .agg #[v0, v1, v2]] w (Ret (True_ w)) := by
  refine calls_of_CW 94 [4] [(0, u), (1, .agg #[v0, v1, v2])] Try.func10 rfl rfl rfl (by simp) args2 ?_
  have hE : Ext w w := Chg.refl
  refine CW.seq fun K1 hK1 => ?_
  refine CW.region ?_   -- region 0
  refine WL.box rfl rfl (by decide) fun g3 w1 hx1 hg3 hB3 => ?_   -- t3 := box 32 t1
  have hlt3 := hB3.lt; have hz1 := hx1.size
  have hM3 := hB3.mem; have hz1 := hx1.size; have hE := hE.thenExt hx1; have hl := hl.ext hx1; have ha := ha.ext hx1; have hb := hb.ext hx1; have hc := hc.ext hx1
  refine WL.val (Y.assign rfl) (by decide) ?_   -- t4 := assign c(false)
  refine WL.nil ?_
  refine hK1 _ _ ?_; try clear hK1 K1
  refine CW.seq fun K2 hK2 => ?_
  refine CW.region ?_   -- region 1
  refine WL.val (Y.move rfl) (by decide) ?_   -- t18 := move t0
  refine WL.val (Y.indexAddrAN (i := 0) Try.underlying32 rfl rfl sz0_sapiDigest (by decide)) (by decide) ?_   -- t19 := indexAddr 32 t3 c(0:i64)
  refine WL.val (Y.load1 Try.underlying23 rfl ((hB3).mem.cell 0 rfl) rfl) (by decide) ?_   -- t20 := load 23 t19
  refine WL.val (Y.indexAddrAN (i := 1) Try.underlying32 rfl rfl sz0_sapiDigest (by decide)) (by decide) ?_   -- t21 := indexAddr 32 t3 c(1:i64)
  refine WL.val (Y.load1 Try.underlying23 rfl ((hB3).mem.cell 1 rfl) rfl) (by decide) ?_   -- t22 := load 23 t21
  refine WL.call Try.func28 rfl rfl rfl (gCommonX_any _ _ _ l a b _ hl ha hb) (by simp) ?_; rintro v23 w2 hR2   -- t23 := call F28(t18, t20, t22) : 22,23,23
  obtain ⟨hv2, rfl, hSC, hx2⟩ := hR2
  skip; have hz2 := hx2.size; have hE := hE.thenExt hx2; have hl := hl.ext hx2; have ha := ha.ext hx2; have hb := hb.ext hx2; have hc := hc.ext hx2; have hB3 := hB3.ext hx2
  refine WL.val (Y.move rfl) (by decide) ?_   -- t17 := move t23
  refine WL.val (Y.extract rfl rfl) (by decide) ?_   -- t24 := extract t17 0
  refine WL.val (Y.extract rfl rfl) (by decide) ?_   -- t25 := extract t17 1
  refine WL.val (Y.assign rfl) (by decide) ?_   -- t5 := assign t24
  refine WL.val (Y.assign rfl) (by decide) ?_   -- t6 := assign t25
  refine WL.nil ?_
  refine hK2 _ _ ?_; try clear hK2 K2
  refine CW.seq fun K3 hK3 => ?_
  refine CW.region ?_   -- region 2
  refine WL.val (Y.move rfl) (by decide) ?_   -- t27 := move t0
  refine WL.val (Y.indexAddrAN (i := 2) Try.underlying32 rfl rfl sz0_sapiDigest (by decide)) (by decide) ?_   -- t28 := indexAddr 32 t3 c(2:i64)
  refine WL.val (Y.load1 Try.underlying23 rfl ((hB3).mem.cell 2 rfl) rfl) (by decide) ?_   -- t29 := load 23 t28
  refine WL.val (Y.indexAddrAN (i := 0) Try.underlying32 rfl rfl sz0_sapiDigest (by decide)) (by decide) ?_   -- t30 := indexAddr 32 t3 c(0:i64)
  refine WL.val (Y.load1 Try.underlying23 rfl ((hB3).mem.cell 0 rfl) rfl) (by decide) ?_   -- t31 := load 23 t30
  refine WL.call Try.func29 rfl rfl rfl (gWithin_any _ _ _ l c a _ hl hc ha) (by simp) ?_; rintro v w3 ⟨rfl, hx3⟩; have hz3 := hx3.size; have hE := hE.thenExt hx3; have hl := hl.ext hx3; have ha := ha.ext hx3; have hb := hb.ext hx3; have hc := hc.ext hx3; have hB3 := hB3.ext hx3; have hSC := hSC.ext hx3   -- t32 := call F29(t27, t29, t31) : 22,23,23
  refine WL.val (Y.move rfl) (by decide) ?_   -- t26 := move t32
  refine WL.val (Y.extract rfl rfl) (by decide) ?_   -- t33 := extract t26 0
  refine WL.val (Y.extract rfl rfl) (by decide) ?_   -- t34 := extract t26 1
  refine WL.val (Y.assign rfl) (by decide) ?_   -- t7 := assign t33
  refine WL.val (Y.assign rfl) (by decide) ?_   -- t8 := assign t34
  refine WL.nil ?_
  refine hK3 _ _ ?_; try clear hK3 K3
  refine CW.seq fun K4 hK4 => ?_
  refine CW.region ?_   -- region 3
  refine WL.val (Y.move rfl) (by decide) ?_   -- t36 := move t0
  refine WL.val (Y.indexAddrAN (i := 2) Try.underlying32 rfl rfl sz0_sapiDigest (by decide)) (by decide) ?_   -- t37 := indexAddr 32 t3 c(2:i64)
  refine WL.val (Y.load1 Try.underlying23 rfl ((hB3).mem.cell 2 rfl) rfl) (by decide) ?_   -- t38 := load 23 t37
  refine WL.val (Y.indexAddrAN (i := 1) Try.underlying32 rfl rfl sz0_sapiDigest (by decide)) (by decide) ?_   -- t39 := indexAddr 32 t3 c(1:i64)
  refine WL.val (Y.load1 Try.underlying23 rfl ((hB3).mem.cell 1 rfl) rfl) (by decide) ?_   -- t40 := load 23 t39
  refine WL.call Try.func29 rfl rfl rfl (gWithin_any _ _ _ l c b _ hl hc hb) (by simp) ?_; rintro v w4 ⟨rfl, hx4⟩; have hz4 := hx4.size; have hE := hE.thenExt hx4; have hl := hl.ext hx4; have ha := ha.ext hx4; have hb := hb.ext hx4; have hc := hc.ext hx4; have hB3 := hB3.ext hx4; have hSC := hSC.ext hx4   -- t41 := call F29(t36, t38, t40) : 22,23,23
  refine WL.val (Y.move rfl) (by decide) ?_   -- t35 := move t41
  refine WL.val (Y.extract rfl rfl) (by decide) ?_   -- t42 := extract t35 0
  refine WL.val (Y.extract rfl rfl) (by decide) ?_   -- t43 := extract t35 1
  refine WL.val (Y.assign rfl) (by decide) ?_   -- t9 := assign t42
  refine WL.val (Y.assign rfl) (by decide) ?_   -- t10 := assign t43
  refine WL.nil ?_
  refine hK4 _ _ ?_; try clear hK4 K4
  refine CW.seq fun K5 hK5 => ?_
  refine CW.seq_test 53 (wrongQ (ndsL l) (a ++ b) ≠ 0 ∨ wrongQ (ndsL l) (c ++ a) ≠ 0 ∨ wrongQ (ndsL l) (c ++ b) ≠ 0) ?_ ?_
  · refine CW.region ?_
    refine WL.val (Y.move rfl) (by decide) ?_   -- t44 := move t6
    refine WL.val (Y.neq rfl rfl) (by decide) ?_   -- t45 := binOp neq 24 t44 c(0:i64) 24
    refine WL.val (Y.move rfl) (by decide) ?_   -- t46 := move t45
    first | refine WL.casesD (d := 46) rfl (fun hg46 => ?_) (fun hg46 => ?_) | refine WL.casesND (d := 46) rfl (fun hg46 => ?_) (fun hg46 => ?_) | refine WL.cases (d := 46) rfl (fun hg46 => ?_) (fun hg46 => ?_)
    · -- t46 = T
      refine WL.goff rfl rfl (by decide) ?_   -- t47 := move t8 [if 2=false]
      refine WL.goff rfl rfl (by decide) ?_   -- t48 := binOp neq 24 t47 c(0:i64) 24 [if 2=false]
      refine WL.val (Y.pick rfl rfl) (by decide) ?_   -- t49 := pick t46 c(true) t48
      refine WL.val (Y.move rfl) (by decide) ?_   -- t50 := move t49
      refine WL.goff rfl rfl (by decide) ?_   -- t51 := move t10 [if 6=false]
      refine WL.goff rfl rfl (by decide) ?_   -- t52 := binOp neq 24 t51 c(0:i64) 24 [if 6=false]
      refine WL.val (Y.pick rfl rfl) (by decide) ?_   -- t53 := pick t50 c(true) t52
      refine WL.nil ⟨⟨_, rfl, ?_⟩, rfl, (by repeat (first | exact Fr.le.refl | refine Fr.le.push rfl ?_))⟩
      first | (simp only [*, Int.natCast_inj, Bool.not_eq_true', decide_eq_false_iff_not, decide_eq_true_eq, not_true_eq_false, not_false_eq_true, true_and, false_and, and_true, and_false, false_or, or_false, true_or, or_true, iff_true, true_iff, iff_false, false_iff]; done) | (simp_all; done) | (refine congrArg Value.bool (Bool.eq_iff_iff.2 ?_); simp_all; done) | (simp_all; omega)
    · -- t46 = F
      refine WL.gval rfl rfl (Y.move rfl) (by decide) ?_   -- t47 := move t8 [if 2=false]
      refine WL.gval rfl rfl (Y.neq rfl rfl) (by decide) ?_   -- t48 := binOp neq 24 t47 c(0:i64) 24 [if 2=false]
      refine WL.val (Y.pick rfl rfl) (by decide) ?_   -- t49 := pick t46 c(true) t48
      refine WL.val (Y.move rfl) (by decide) ?_   -- t50 := move t49
      first | refine WL.casesD (d := 50) rfl (fun hg50 => ?_) (fun hg50 => ?_) | refine WL.casesND (d := 50) rfl (fun hg50 => ?_) (fun hg50 => ?_) | refine WL.cases (d := 50) rfl (fun hg50 => ?_) (fun hg50 => ?_)
      · -- t50 = T
        refine WL.goff rfl rfl (by decide) ?_   -- t51 := move t10 [if 6=false]
        refine WL.goff rfl rfl (by decide) ?_   -- t52 := binOp neq 24 t51 c(0:i64) 24 [if 6=false]
        refine WL.val (Y.pick rfl rfl) (by decide) ?_   -- t53 := pick t50 c(true) t52
        refine WL.nil ⟨⟨_, rfl, ?_⟩, rfl, (by repeat (first | exact Fr.le.refl | refine Fr.le.push rfl ?_))⟩
        first | (simp only [*, Int.natCast_inj, Bool.not_eq_true', decide_eq_false_iff_not, decide_eq_true_eq, not_true_eq_false, not_false_eq_true, true_and, false_and, and_true, and_false, false_or, or_false, true_or, or_true, iff_true, true_iff, iff_false, false_iff]; done) | (simp_all; done) | (refine congrArg Value.bool (Bool.eq_iff_iff.2 ?_); simp_all; done) | (simp_all; omega)
      · -- t50 = F
        refine WL.gval rfl rfl (Y.move rfl) (by decide) ?_   -- t51 := move t10 [if 6=false]
        refine WL.gval rfl rfl (Y.neq rfl rfl) (by decide) ?_   -- t52 := binOp neq 24 t51 c(0:i64) 24 [if 6=false]
        refine WL.val (Y.pick rfl rfl) (by decide) ?_   -- t53 := pick t50 c(true) t52
        refine WL.nil ⟨⟨_, rfl, ?_⟩, rfl, (by repeat (first | exact Fr.le.refl | refine Fr.le.push rfl ?_))⟩
        first | (simp only [*, Int.natCast_inj, Bool.not_eq_true', decide_eq_false_iff_not, decide_eq_true_eq, not_true_eq_false, not_false_eq_true, true_and, false_and, and_true, and_false, false_or, or_false, true_or, or_true, iff_true, true_iff, iff_false, false_iff]; done) | (simp_all; done) | (refine congrArg Value.bool (Bool.eq_iff_iff.2 ?_); simp_all; done) | (simp_all; omega)
  first | refine CW.condD rfl (fun ht6 => ?_) (fun ht6 => ?_) | refine CW.condND rfl (fun ht6 => ?_) (fun ht6 => ?_) | refine CW.condN rfl (fun ht6 => ?_) (fun ht6 => ?_) | refine CW.cond rfl (fun ht6 => ?_) (fun ht6 => ?_)
  · -- then
    refine CW.seq fun K7 hK7 => ?_
    refine CW.region ?_   -- region 5
    refine WL.call Try.func18 rfl rfl rfl (alive_any _) (by simp) ?_; rintro v w5 ⟨rfl, hx5⟩; have hz5 := hx5.size; have hE := hE.thenExt hx5; have hl := hl.ext hx5; have ha := ha.ext hx5; have hb := hb.ext hx5; have hc := hc.ext hx5; have hB3 := hB3.ext hx5; have hSC := hSC.ext hx5   -- t54 := call F18() : 
    refine WL.val (Y.assign rfl) (by decide) ?_   -- t4 := assign t54
    refine WL.nil ?_
    refine hK7 _ _ ?_; try clear hK7 K7
    refine CW.ret ⟨_, rfl, ?_⟩
    exact ⟨rfl, hE⟩
  -- else
  refine CW.skip ?_
  refine hK5 _ _ ?_; try clear hK5 K5
  refine CW.seq fun K8 hK8 => ?_
  have hqa : wrongQ (ndsL l) (a ++ b) = 0 := by omega
  have hqc : wrongQ (ndsL l) (c ++ a) = 0 := by omega
  have hok := wrongQ_ok7 hqa
  have hia : ∀ d ∈ a, d ∈ idsL (ndsL l) := fun d hd => wrongQ_in7 hqa d (List.mem_append_left _ hd)
  have hib : ∀ d ∈ b, d ∈ idsL (ndsL l) := fun d hd => wrongQ_in7 hqa d (List.mem_append_right _ hd)
  have hic : ∀ d ∈ c, d ∈ idsL (ndsL l) := fun d hd => wrongQ_in7 hqc d (List.mem_append_left _ hd)
  rw [cmX, if_pos hqa] at hSC
  have hC := cmL_ids hok hia hib
  have e1 : (if wrongQ (ndsL l) (c ++ a) = 0 then c.all (bitAt (markS (ndsL l) a) (ndsL l)) else false) = wiB (ndsL l) c a := if_pos hqc
  have e2 : (if wrongQ (ndsL l) (c ++ b) = 0 then c.all (bitAt (markS (ndsL l) b) (ndsL l)) else false) = wiB (ndsL l) c b := if_pos (by omega)
  rw [e1, e2]
  refine CW.region ?_   -- region 6
  refine WL.val (Y.move rfl) (by decide) ?_   -- t56 := move t0
  refine WL.val (Y.move rfl) (by decide) ?_   -- t57 := move t5
  refine WL.val (Y.indexAddrAN (i := 0) Try.underlying32 rfl rfl sz0_sapiDigest (by decide)) (by decide) ?_   -- t58 := indexAddr 32 t3 c(0:i64)
  refine WL.val (Y.load1 Try.underlying23 rfl ((hB3).mem.cell 0 rfl) rfl) (by decide) ?_   -- t59 := load 23 t58
  refine WL.call Try.func29 rfl rfl rfl (gWithinIn_any _ _ _ l (cmL (ndsL l) a b) a _ hl hok hSC ha hC hia) (by simp) ?_; rintro v w6 ⟨rfl, hx6⟩; have hz6 := hx6.size; have hE := hE.thenExt hx6; have hl := hl.ext hx6; have ha := ha.ext hx6; have hb := hb.ext hx6; have hc := hc.ext hx6; have hB3 := hB3.ext hx6; have hSC := hSC.ext hx6   -- t60 := call F29(t56, t57, t59) : 22,23,23
  refine WL.val (Y.move rfl) (by decide) ?_   -- t55 := move t60
  refine WL.val (Y.extract rfl rfl) (by decide) ?_   -- t61 := extract t55 0
  refine WL.val (Y.extract rfl rfl) (by decide) ?_   -- t62 := extract t55 1
  refine WL.val (Y.assign rfl) (by decide) ?_   -- t11 := assign t61
  refine WL.val (Y.assign rfl) (by decide) ?_   -- t12 := assign t62
  refine WL.nil ?_
  refine hK8 _ _ ?_; try clear hK8 K8
  refine CW.seq fun K9 hK9 => ?_
  refine CW.region ?_   -- region 7
  refine WL.val (Y.move rfl) (by decide) ?_   -- t64 := move t0
  refine WL.val (Y.move rfl) (by decide) ?_   -- t65 := move t5
  refine WL.val (Y.indexAddrAN (i := 1) Try.underlying32 rfl rfl sz0_sapiDigest (by decide)) (by decide) ?_   -- t66 := indexAddr 32 t3 c(1:i64)
  refine WL.val (Y.load1 Try.underlying23 rfl ((hB3).mem.cell 1 rfl) rfl) (by decide) ?_   -- t67 := load 23 t66
  refine WL.call Try.func29 rfl rfl rfl (gWithinIn_any _ _ _ l (cmL (ndsL l) a b) b _ hl hok hSC hb hC hib) (by simp) ?_; rintro v w7 ⟨rfl, hx7⟩; have hz7 := hx7.size; have hE := hE.thenExt hx7; have hl := hl.ext hx7; have ha := ha.ext hx7; have hb := hb.ext hx7; have hc := hc.ext hx7; have hB3 := hB3.ext hx7; have hSC := hSC.ext hx7   -- t68 := call F29(t64, t65, t67) : 22,23,23
  refine WL.val (Y.move rfl) (by decide) ?_   -- t63 := move t68
  refine WL.val (Y.extract rfl rfl) (by decide) ?_   -- t69 := extract t63 0
  refine WL.val (Y.extract rfl rfl) (by decide) ?_   -- t70 := extract t63 1
  refine WL.val (Y.assign rfl) (by decide) ?_   -- t13 := assign t69
  refine WL.val (Y.assign rfl) (by decide) ?_   -- t14 := assign t70
  refine WL.nil ?_
  refine hK9 _ _ ?_; try clear hK9 K9
  refine CW.seq fun K10 hK10 => ?_
  refine CW.region ?_   -- region 8
  refine WL.val (Y.move rfl) (by decide) ?_   -- t72 := move t0
  refine WL.val (Y.indexAddrAN (i := 2) Try.underlying32 rfl rfl sz0_sapiDigest (by decide)) (by decide) ?_   -- t73 := indexAddr 32 t3 c(2:i64)
  refine WL.val (Y.load1 Try.underlying23 rfl ((hB3).mem.cell 2 rfl) rfl) (by decide) ?_   -- t74 := load 23 t73
  refine WL.val (Y.move rfl) (by decide) ?_   -- t75 := move t5
  refine WL.call Try.func29 rfl rfl rfl (gWithinIn_any _ _ _ l c (cmL (ndsL l) a b) _ hl hok hc hSC hic hC) (by simp) ?_; rintro v w8 ⟨rfl, hx8⟩; have hz8 := hx8.size; have hE := hE.thenExt hx8; have hl := hl.ext hx8; have ha := ha.ext hx8; have hb := hb.ext hx8; have hc := hc.ext hx8; have hB3 := hB3.ext hx8; have hSC := hSC.ext hx8   -- t76 := call F29(t72, t74, t75) : 22,23,23
  refine WL.val (Y.move rfl) (by decide) ?_   -- t71 := move t76
  refine WL.val (Y.extract rfl rfl) (by decide) ?_   -- t77 := extract t71 0
  refine WL.val (Y.extract rfl rfl) (by decide) ?_   -- t78 := extract t71 1
  refine WL.val (Y.assign rfl) (by decide) ?_   -- t15 := assign t77
  refine WL.val (Y.assign rfl) (by decide) ?_   -- t16 := assign t78
  refine WL.nil ?_
  refine hK10 _ _ ?_; try clear hK10 K10
  refine CW.seq fun K11 hK11 => ?_
  refine CW.region ?_   -- region 9
  refine WL.val (Y.move rfl) (by decide) ?_   -- t79 := move t11
  refine WL.val (Y.move rfl) (by decide) ?_   -- t80 := move t79
  refine WL.know (d := 80) (u := .bool true) rfl (by rw [meets_left hok hia hib]; rfl) ?_
  refine WL.gval rfl rfl (Y.move rfl) (by decide) ?_   -- t81 := move t13 [if 1=true]
  refine WL.val (Y.pick rfl rfl) (by decide) ?_   -- t82 := pick t80 t81 c(false)
  refine WL.val (Y.move rfl) (by decide) ?_   -- t83 := move t82
  refine WL.know (d := 83) (u := .bool true) rfl (by rw [meets_right hok hia hib]; rfl) ?_
  refine WL.gval rfl rfl (Y.move rfl) (by decide) ?_   -- t84 := move t15 [if 4=true]
  refine WL.gval rfl rfl (Y.move rfl) (by decide) ?_   -- t85 := move t7 [if 4=true]
  refine WL.gval rfl rfl (Y.move rfl) (by decide) ?_   -- t86 := move t85 [if 4=true]
  first | refine WL.casesD (d := 86) rfl (fun hg86 => ?_) (fun hg86 => ?_) | refine WL.casesND (d := 86) rfl (fun hg86 => ?_) (fun hg86 => ?_) | refine WL.cases (d := 86) rfl (fun hg86 => ?_) (fun hg86 => ?_)
  · -- t86 = T
    refine WL.gval rfl rfl (Y.move rfl) (by decide) ?_   -- t87 := move t9 [if 7=true]
    refine WL.gval rfl rfl (Y.pick rfl rfl) (by decide) ?_   -- t88 := pick t86 t87 c(false) [if 4=true]
    refine WL.gval rfl rfl (Y.eql_bool Try.underlying4 rfl rfl) (by decide) ?_   -- t89 := binOp eql 4 t84 t88 4 [if 4=true]
    refine WL.val (Y.pick rfl rfl) (by decide) ?_   -- t90 := pick t83 t89 c(false)
    refine WL.val (Y.move rfl) (by decide) ?_   -- t91 := move t90
    refine WL.know (d := 91) (u := .bool true) rfl (by rw [meets_iff hok hia hib hic]; simp [hg86]) ?_
    refine WL.gcall rfl rfl Try.func18 rfl rfl rfl (alive_any _) (by decide) ?_; rintro v w9 ⟨rfl, hx9⟩; have hz9 := hx9.size; have hE := hE.thenExt hx9; have hl := hl.ext hx9; have ha := ha.ext hx9; have hb := hb.ext hx9; have hc := hc.ext hx9; have hB3 := hB3.ext hx9; have hSC := hSC.ext hx9   -- t92 := call F18() :  [if 12=true]
    refine WL.val (Y.pick rfl rfl) (by decide) ?_   -- t93 := pick t91 t92 c(false)
    refine WL.val (Y.assign rfl) (by decide) ?_   -- t4 := assign t93
    refine WL.nil ?_
    refine hK11 _ _ ?_; try clear hK11 K11
    refine CW.ret ⟨_, rfl, ?_⟩
    exact ⟨rfl, hE⟩
  · -- t86 = F
    refine WL.goff rfl rfl (by decide) ?_   -- t87 := move t9 [if 7=true]
    refine WL.gval rfl rfl (Y.pick rfl rfl) (by decide) ?_   -- t88 := pick t86 t87 c(false) [if 4=true]
    refine WL.gval rfl rfl (Y.eql_bool Try.underlying4 rfl rfl) (by decide) ?_   -- t89 := binOp eql 4 t84 t88 4 [if 4=true]
    refine WL.val (Y.pick rfl rfl) (by decide) ?_   -- t90 := pick t83 t89 c(false)
    refine WL.val (Y.move rfl) (by decide) ?_   -- t91 := move t90
    refine WL.know (d := 91) (u := .bool true) rfl (by rw [meets_iff hok hia hib hic]; simp [hg86]) ?_
    refine WL.gcall rfl rfl Try.func18 rfl rfl rfl (alive_any _) (by decide) ?_; rintro v w10 ⟨rfl, hx10⟩; have hz10 := hx10.size; have hE := hE.thenExt hx10; have hl := hl.ext hx10; have ha := ha.ext hx10; have hb := hb.ext hx10; have hc := hc.ext hx10; have hB3 := hB3.ext hx10; have hSC := hSC.ext hx10   -- t92 := call F18() :  [if 12=true]
    refine WL.val (Y.pick rfl rfl) (by decide) ?_   -- t93 := pick t91 t92 c(false)
    refine WL.val (Y.assign rfl) (by decide) ?_   -- t4 := assign t93
    refine WL.nil ?_
    refine hK11 _ _ ?_; try clear hK11 K11
    refine CW.ret ⟨_, rfl, ?_⟩
    exact ⟨rfl, hE⟩
set_option maxHeartbeats 1000000 in
theorem graphLattice_any (u : Value) (v0 v1 v2 : Value) (l : List NdV) (a b c : List Dig) (w : World) (hl : Nds w u l) (ha : Sl w digC 32 v0 a) (hb : Sl w digC 32 v1 b) (hc : Sl w digC 32 v2 c) (hna : a.length ≤ 1048576) (hnb : b.length ≤ 1048576) (hnc : c.length ≤ 1048576) : Calls Try.prog 4 #[u, .agg #[v0, v1, v2]] w (Ret (True_ w)) := by
  refine calls_of_CW 118 [4] [(0, u), (1, .agg #[v0, v1, v2])] Try.func4 rfl rfl rfl (by simp) args2 ?_
  have hE : Ext w w := Chg.refl
  refine CW.seq fun K1 hK1 => ?_
  refine CW.region ?_   -- region 0
  refine WL.box rfl rfl (by decide) fun g3 w1 hx1 hg3 hB3 => ?_   -- t3 := box 32 t1
  have hlt3 := hB3.lt; have hz1 := hx1.size
  have hM3 := hB3.mem; have hz1 := hx1.size; have hE := hE.thenExt hx1; have hl := hl.ext hx1; have ha := ha.ext hx1; have hb := hb.ext hx1; have hc := hc.ext hx1
  refine WL.val (Y.assign rfl) (by decide) ?_   -- t4 := assign c(false)
  refine WL.nil ?_
  refine hK1 _ _ ?_; try clear hK1 K1
  refine CW.seq fun K2 hK2 => ?_
  refine CW.quiet (fun wq => Ext w1 wq) (by kernel_rfl) (by kernel_rfl) Chg.drew ?_
  refine QL.val (fun wq hq => Y.indexAddrAN (i := 0) Try.underlying32 rfl rfl sz0_sapiDigest (by decide)) (by decide) ?_   -- t22 := indexAddr 32 t3 c(0:i64)
  refine QL.val (fun wq hq => Y.load1 Try.underlying23 rfl ((hB3.ext hq).mem.cell 0 rfl) rfl) (by decide) ?_   -- t23 := load 23 t22
  refine QL.val (fun wq hq => Y.indexAddrAN (i := 1) Try.underlying32 rfl rfl sz0_sapiDigest (by decide)) (by decide) ?_   -- t24 := indexAddr 32 t3 c(1:i64)
  refine QL.val (fun wq hq => Y.load1 Try.underlying23 rfl ((hB3.ext hq).mem.cell 1 rfl) rfl) (by decide) ?_   -- t25 := load 23 t24
  refine QL.val (fun wq hq => Y.indexAddrAN (i := 2) Try.underlying32 rfl rfl sz0_sapiDigest (by decide)) (by decide) ?_   -- t26 := indexAddr 32 t3 c(2:i64)
  refine QL.val (fun wq hq => Y.load1 Try.underlying23 rfl ((hB3.ext hq).mem.cell 2 rfl) rfl) (by decide) ?_   -- t27 := load 23 t26
  refine QL.val (fun wq hq => Y.assign rfl) (by decide) ?_   -- t5 := assign t23
  refine QL.val (fun wq hq => Y.assign rfl) (by decide) ?_   -- t6 := assign t25
  refine QL.val (fun wq hq => Y.assign rfl) (by decide) ?_   -- t7 := assign t27
  refine QL.nil fun w2 hx2 => ?_
  have hz2 := hx2.size
  have hE := hE.thenExt hx2
  have hl := hl.ext hx2
  have ha := ha.ext hx2
  have hb := hb.ext hx2
  have hc := hc.ext hx2
  have hB3 := hB3.ext hx2
  refine hK2 _ _ ?_; try clear hK2 K2
  refine CW.seq fun K3 hK3 => ?_
  refine CW.region ?_   -- region 2
  refine WL.val (Y.move rfl) (by decide) ?_   -- t29 := move t0
  refine WL.val (Y.move rfl) (by decide) ?_   -- t30 := move t5
  refine WL.val (Y.move rfl) (by decide) ?_   -- t31 := move t6
  refine WL.call Try.func19 rfl rfl rfl (two_sl _ _ a b _ ha hb (by omega)) (by simp) ?_; rintro v32 w3 hR3   -- t32 := call F19(t30, t31) : 23,23
  obtain ⟨ht3, hx3⟩ := hR3
  skip; have hz3 := hx3.size; have hE := hE.thenExt hx3; have hl := hl.ext hx3; have ha := ha.ext hx3; have hb := hb.ext hx3; have hc := hc.ext hx3; have hB3 := hB3.ext hx3
  refine WL.call Try.func14 rfl rfl rfl (gHeadsX_any _ _ l (a ++ b) _ hl ht3) (by simp) ?_; rintro v33 w4 hR4   -- t33 := call F14(t29, t32) : 22,23
  obtain ⟨hv4, rfl, hh4, hx4⟩ := hR4
  skip; have hz4 := hx4.size; have hE := hE.thenExt hx4; have hl := hl.ext hx4; have ha := ha.ext hx4; have hb := hb.ext hx4; have hc := hc.ext hx4; have hB3 := hB3.ext hx4
  refine WL.val (Y.move rfl) (by decide) ?_   -- t28 := move t33
  refine WL.val (Y.extract rfl rfl) (by decide) ?_   -- t34 := extract t28 0
  refine WL.val (Y.extract rfl rfl) (by decide) ?_   -- t35 := extract t28 1
  refine WL.val (Y.assign rfl) (by decide) ?_   -- t8 := assign t34
  refine WL.val (Y.assign rfl) (by decide) ?_   -- t9 := assign t35
  refine WL.nil ?_
  refine hK3 _ _ ?_; try clear hK3 K3
  refine CW.seq fun K4 hK4 => ?_
  refine CW.region ?_   -- region 3
  refine WL.val (Y.move rfl) (by decide) ?_   -- t37 := move t0
  refine WL.val (Y.move rfl) (by decide) ?_   -- t38 := move t6
  refine WL.val (Y.move rfl) (by decide) ?_   -- t39 := move t7
  refine WL.call Try.func19 rfl rfl rfl (two_sl _ _ b c _ hb hc (by omega)) (by simp) ?_; rintro v40 w5 hR5   -- t40 := call F19(t38, t39) : 23,23
  obtain ⟨ht5, hx5⟩ := hR5
  skip; have hz5 := hx5.size; have hE := hE.thenExt hx5; have hl := hl.ext hx5; have ha := ha.ext hx5; have hb := hb.ext hx5; have hc := hc.ext hx5; have hB3 := hB3.ext hx5; have hh4 := hh4.ext hx5
  refine WL.call Try.func14 rfl rfl rfl (gHeadsX_any _ _ l (b ++ c) _ hl ht5) (by simp) ?_; rintro v41 w6 hR6   -- t41 := call F14(t37, t40) : 22,23
  obtain ⟨hv6, rfl, hh6, hx6⟩ := hR6
  skip; have hz6 := hx6.size; have hE := hE.thenExt hx6; have hl := hl.ext hx6; have ha := ha.ext hx6; have hb := hb.ext hx6; have hc := hc.ext hx6; have hB3 := hB3.ext hx6; have hh4 := hh4.ext hx6
  refine WL.val (Y.move rfl) (by decide) ?_   -- t36 := move t41
  refine WL.val (Y.extract rfl rfl) (by decide) ?_   -- t42 := extract t36 0
  refine WL.val (Y.extract rfl rfl) (by decide) ?_   -- t43 := extract t36 1
  refine WL.val (Y.assign rfl) (by decide) ?_   -- t10 := assign t42
  refine WL.val (Y.assign rfl) (by decide) ?_   -- t11 := assign t43
  refine WL.nil ?_
  refine hK4 _ _ ?_; try clear hK4 K4
  refine CW.seq fun K5 hK5 => ?_
  refine CW.region ?_   -- region 4
  refine WL.val (Y.move rfl) (by decide) ?_   -- t45 := move t0
  refine WL.val (Y.move rfl) (by decide) ?_   -- t46 := move t5
  refine WL.val (Y.move rfl) (by decide) ?_   -- t47 := move t6
  refine WL.call Try.func19 rfl rfl rfl (two_sl _ _ a b _ ha hb (by omega)) (by simp) ?_; rintro v48 w7 hR7   -- t48 := call F19(t46, t47) : 23,23
  obtain ⟨ht7, hx7⟩ := hR7
  skip; have hz7 := hx7.size; have hE := hE.thenExt hx7; have hl := hl.ext hx7; have ha := ha.ext hx7; have hb := hb.ext hx7; have hc := hc.ext hx7; have hB3 := hB3.ext hx7; have hh4 := hh4.ext hx7; have hh6 := hh6.ext hx7
  refine WL.val (Y.move rfl) (by decide) ?_   -- t49 := move t7
  refine WL.call Try.func19 rfl rfl rfl (two_sl _ _ (a ++ b) c _ ht7 hc (by rw [List.length_append]; omega)) (by simp) ?_; rintro v50 w8 hR8   -- t50 := call F19(t48, t49) : 23,23
  obtain ⟨ht8, hx8⟩ := hR8
  skip; have hz8 := hx8.size; have hE := hE.thenExt hx8; have hl := hl.ext hx8; have ha := ha.ext hx8; have hb := hb.ext hx8; have hc := hc.ext hx8; have hB3 := hB3.ext hx8; have hh4 := hh4.ext hx8; have hh6 := hh6.ext hx8
  refine WL.call Try.func14 rfl rfl rfl (gHeadsX_any _ _ l (a ++ b ++ c) _ hl ht8) (by simp) ?_; rintro v51 w9 hR9   -- t51 := call F14(t45, t50) : 22,23
  obtain ⟨hv9, rfl, hh9, hx9⟩ := hR9
  skip; have hz9 := hx9.size; have hE := hE.thenExt hx9; have hl := hl.ext hx9; have ha := ha.ext hx9; have hb := hb.ext hx9; have hc := hc.ext hx9; have hB3 := hB3.ext hx9; have hh4 := hh4.ext hx9; have hh6 := hh6.ext hx9
  refine WL.val (Y.move rfl) (by decide) ?_   -- t44 := move t51
  refine WL.val (Y.extract rfl rfl) (by decide) ?_   -- t52 := extract t44 0
  refine WL.val (Y.extract rfl rfl) (by decide) ?_   -- t53 := extract t44 1
  refine WL.val (Y.assign rfl) (by decide) ?_   -- t12 := assign t52
  refine WL.val (Y.assign rfl) (by decide) ?_   -- t13 := assign t53
  refine WL.nil ?_
  refine hK5 _ _ ?_; try clear hK5 K5
  refine CW.seq fun K6 hK6 => ?_
  refine CW.seq_test 63 (wrongQ (ndsL l) (a ++ b) ≠ 0 ∨ wrongQ (ndsL l) (b ++ c) ≠ 0 ∨ wrongQ (ndsL l) (a ++ b ++ c) ≠ 0) ?_ ?_
  · refine CW.region ?_
    refine WL.val (Y.move rfl) (by decide) ?_   -- t54 := move t9
    refine WL.val (Y.neq rfl rfl) (by decide) ?_   -- t55 := binOp neq 24 t54 c(0:i64) 24
    refine WL.val (Y.move rfl) (by decide) ?_   -- t56 := move t55
    first | refine WL.casesD (d := 56) rfl (fun hg56 => ?_) (fun hg56 => ?_) | refine WL.casesND (d := 56) rfl (fun hg56 => ?_) (fun hg56 => ?_) | refine WL.cases (d := 56) rfl (fun hg56 => ?_) (fun hg56 => ?_)
    · -- t56 = T
      refine WL.goff rfl rfl (by decide) ?_   -- t57 := move t11 [if 2=false]
      refine WL.goff rfl rfl (by decide) ?_   -- t58 := binOp neq 24 t57 c(0:i64) 24 [if 2=false]
      refine WL.val (Y.pick rfl rfl) (by decide) ?_   -- t59 := pick t56 c(true) t58
      refine WL.val (Y.move rfl) (by decide) ?_   -- t60 := move t59
      refine WL.goff rfl rfl (by decide) ?_   -- t61 := move t13 [if 6=false]
      refine WL.goff rfl rfl (by decide) ?_   -- t62 := binOp neq 24 t61 c(0:i64) 24 [if 6=false]
      refine WL.val (Y.pick rfl rfl) (by decide) ?_   -- t63 := pick t60 c(true) t62
      refine WL.nil ⟨⟨_, rfl, ?_⟩, rfl, (by repeat (first | exact Fr.le.refl | refine Fr.le.push rfl ?_))⟩
      first | (simp only [*, Int.natCast_inj, Bool.not_eq_true', decide_eq_false_iff_not, decide_eq_true_eq, not_true_eq_false, not_false_eq_true, true_and, false_and, and_true, and_false, false_or, or_false, true_or, or_true, iff_true, true_iff, iff_false, false_iff]; done) | (simp_all; done) | (refine congrArg Value.bool (Bool.eq_iff_iff.2 ?_); simp_all; done) | (simp_all; omega)
    · -- t56 = F
      refine WL.gval rfl rfl (Y.move rfl) (by decide) ?_   -- t57 := move t11 [if 2=false]
      refine WL.gval rfl rfl (Y.neq rfl rfl) (by decide) ?_   -- t58 := binOp neq 24 t57 c(0:i64) 24 [if 2=false]
      refine WL.val (Y.pick rfl rfl) (by decide) ?_   -- t59 := pick t56 c(true) t58
      refine WL.val (Y.move rfl) (by decide) ?_   -- t60 := move t59
      first | refine WL.casesD (d := 60) rfl (fun hg60 => ?_) (fun hg60 => ?_) | refine WL.casesND (d := 60) rfl (fun hg60 => ?_) (fun hg60 => ?_) | refine WL.cases (d := 60) rfl (fun hg60 => ?_) (fun hg60 => ?_)
      · -- t60 = T
        refine WL.goff rfl rfl (by decide) ?_   -- t61 := move t13 [if 6=false]
        refine WL.goff rfl rfl (by decide) ?_   -- t62 := binOp neq 24 t61 c(0:i64) 24 [if 6=false]
        refine WL.val (Y.pick rfl rfl) (by decide) ?_   -- t63 := pick t60 c(true) t62
        refine WL.nil ⟨⟨_, rfl, ?_⟩, rfl, (by repeat (first | exact Fr.le.refl | refine Fr.le.push rfl ?_))⟩
        first | (simp only [*, Int.natCast_inj, Bool.not_eq_true', decide_eq_false_iff_not, decide_eq_true_eq, not_true_eq_false, not_false_eq_true, true_and, false_and, and_true, and_false, false_or, or_false, true_or, or_true, iff_true, true_iff, iff_false, false_iff]; done) | (simp_all; done) | (refine congrArg Value.bool (Bool.eq_iff_iff.2 ?_); simp_all; done) | (simp_all; omega)
      · -- t60 = F
        refine WL.gval rfl rfl (Y.move rfl) (by decide) ?_   -- t61 := move t13 [if 6=false]
        refine WL.gval rfl rfl (Y.neq rfl rfl) (by decide) ?_   -- t62 := binOp neq 24 t61 c(0:i64) 24 [if 6=false]
        refine WL.val (Y.pick rfl rfl) (by decide) ?_   -- t63 := pick t60 c(true) t62
        refine WL.nil ⟨⟨_, rfl, ?_⟩, rfl, (by repeat (first | exact Fr.le.refl | refine Fr.le.push rfl ?_))⟩
        first | (simp only [*, Int.natCast_inj, Bool.not_eq_true', decide_eq_false_iff_not, decide_eq_true_eq, not_true_eq_false, not_false_eq_true, true_and, false_and, and_true, and_false, false_or, or_false, true_or, or_true, iff_true, true_iff, iff_false, false_iff]; done) | (simp_all; done) | (refine congrArg Value.bool (Bool.eq_iff_iff.2 ?_); simp_all; done) | (simp_all; omega)
  first | refine CW.condD rfl (fun ht7 => ?_) (fun ht7 => ?_) | refine CW.condND rfl (fun ht7 => ?_) (fun ht7 => ?_) | refine CW.condN rfl (fun ht7 => ?_) (fun ht7 => ?_) | refine CW.cond rfl (fun ht7 => ?_) (fun ht7 => ?_)
  · -- then
    refine CW.seq fun K8 hK8 => ?_
    refine CW.region ?_   -- region 6
    refine WL.call Try.func18 rfl rfl rfl (alive_any _) (by simp) ?_; rintro v w10 ⟨rfl, hx10⟩; have hz10 := hx10.size; have hE := hE.thenExt hx10; have hl := hl.ext hx10; have ha := ha.ext hx10; have hb := hb.ext hx10; have hc := hc.ext hx10; have hB3 := hB3.ext hx10; have hh4 := hh4.ext hx10; have hh6 := hh6.ext hx10; have hh9 := hh9.ext hx10   -- t64 := call F18() : 
    refine WL.val (Y.assign rfl) (by decide) ?_   -- t4 := assign t64
    refine WL.nil ?_
    refine hK8 _ _ ?_; try clear hK8 K8
    refine CW.ret ⟨_, rfl, ?_⟩
    exact ⟨rfl, hE⟩
  -- else
  refine CW.skip ?_
  refine hK6 _ _ ?_; try clear hK6 K6
  refine CW.seq fun K9 hK9 => ?_
  have hqa : wrongQ (ndsL l) (a ++ b) = 0 := by omega
  have hqb : wrongQ (ndsL l) (b ++ c) = 0 := by omega
  have hqc : wrongQ (ndsL l) (a ++ b ++ c) = 0 := by omega
  have hok := wrongQ_ok7 hqa
  have hia : ∀ d ∈ a, d ∈ idsL (ndsL l) := fun d hd => wrongQ_in7 hqa d (List.mem_append_left _ hd)
  have hib : ∀ d ∈ b, d ∈ idsL (ndsL l) := fun d hd => wrongQ_in7 hqa d (List.mem_append_right _ hd)
  have hic : ∀ d ∈ c, d ∈ idsL (ndsL l) := fun d hd => wrongQ_in7 hqb d (List.mem_append_right _ hd)
  rw [hdX, if_pos hqa] at hh4
  rw [hdX, if_pos hqb] at hh6
  rw [hdX, if_pos hqc] at hh9
  have hAB : ∀ d ∈ hdL (ndsL l) (a ++ b), d ∈ idsL (ndsL l) := fun d hd => app_in hia hib d (hdL_sub hok (app_in hia hib) hd)
  have hBC : ∀ d ∈ hdL (ndsL l) (b ++ c), d ∈ idsL (ndsL l) := fun d hd => app_in hib hic d (hdL_sub hok (app_in hib hic) hd)
  have hlA := hdL_len hok (app_in hia hib)
  have hlB := hdL_len hok (app_in hib hic)
  refine CW.region ?_   -- region 7
  refine WL.val (Y.move rfl) (by decide) ?_   -- t66 := move t0
  refine WL.val (Y.move rfl) (by decide) ?_   -- t67 := move t6
  refine WL.val (Y.move rfl) (by decide) ?_   -- t68 := move t5
  refine WL.call Try.func19 rfl rfl rfl (two_sl _ _ b a _ hb ha (by omega)) (by simp) ?_; rintro v69 w11 hR11   -- t69 := call F19(t67, t68) : 23,23
  obtain ⟨ht11, hx11⟩ := hR11
  skip; have hz11 := hx11.size; have hE := hE.thenExt hx11; have hl := hl.ext hx11; have ha := ha.ext hx11; have hb := hb.ext hx11; have hc := hc.ext hx11; have hB3 := hB3.ext hx11; have hh4 := hh4.ext hx11; have hh6 := hh6.ext hx11; have hh9 := hh9.ext hx11
  refine WL.call Try.func14 rfl rfl rfl (gHeadsIn_any _ _ l (b ++ a) _ hl hok ht11 (app_in hib hia)) (by simp) ?_; rintro v70 w12 hR12   -- t70 := call F14(t66, t69) : 22,23
  obtain ⟨hv12, rfl, hh12, hx12⟩ := hR12
  skip; have hz12 := hx12.size; have hE := hE.thenExt hx12; have hl := hl.ext hx12; have ha := ha.ext hx12; have hb := hb.ext hx12; have hc := hc.ext hx12; have hB3 := hB3.ext hx12; have hh4 := hh4.ext hx12; have hh6 := hh6.ext hx12; have hh9 := hh9.ext hx12
  refine WL.val (Y.move rfl) (by decide) ?_   -- t65 := move t70
  refine WL.val (Y.extract rfl rfl) (by decide) ?_   -- t71 := extract t65 0
  refine WL.val (Y.extract rfl rfl) (by decide) ?_   -- t72 := extract t65 1
  refine WL.val (Y.assign rfl) (by decide) ?_   -- t14 := assign t71
  refine WL.val (Y.assign rfl) (by decide) ?_   -- t15 := assign t72
  refine WL.nil ?_
  refine hK9 _ _ ?_; try clear hK9 K9
  refine CW.seq fun K10 hK10 => ?_
  refine CW.region ?_   -- region 8
  refine WL.val (Y.move rfl) (by decide) ?_   -- t74 := move t0
  refine WL.val (Y.move rfl) (by decide) ?_   -- t75 := move t8
  refine WL.val (Y.move rfl) (by decide) ?_   -- t76 := move t7
  refine WL.call Try.func19 rfl rfl rfl (two_sl _ _ (hdL (ndsL l) (a ++ b)) c _ hh4 hc (by omega)) (by simp) ?_; rintro v77 w13 hR13   -- t77 := call F19(t75, t76) : 23,23
  obtain ⟨ht13, hx13⟩ := hR13
  skip; have hz13 := hx13.size; have hE := hE.thenExt hx13; have hl := hl.ext hx13; have ha := ha.ext hx13; have hb := hb.ext hx13; have hc := hc.ext hx13; have hB3 := hB3.ext hx13; have hh4 := hh4.ext hx13; have hh6 := hh6.ext hx13; have hh9 := hh9.ext hx13; have hh12 := hh12.ext hx13
  refine WL.call Try.func14 rfl rfl rfl (gHeadsIn_any _ _ l (hdL (ndsL l) (a ++ b) ++ c) _ hl hok ht13 (app_in hAB hic)) (by simp) ?_; rintro v78 w14 hR14   -- t78 := call F14(t74, t77) : 22,23
  obtain ⟨hv14, rfl, hh14, hx14⟩ := hR14
  skip; have hz14 := hx14.size; have hE := hE.thenExt hx14; have hl := hl.ext hx14; have ha := ha.ext hx14; have hb := hb.ext hx14; have hc := hc.ext hx14; have hB3 := hB3.ext hx14; have hh4 := hh4.ext hx14; have hh6 := hh6.ext hx14; have hh9 := hh9.ext hx14; have hh12 := hh12.ext hx14
  refine WL.val (Y.move rfl) (by decide) ?_   -- t73 := move t78
  refine WL.val (Y.extract rfl rfl) (by decide) ?_   -- t79 := extract t73 0
  refine WL.val (Y.extract rfl rfl) (by decide) ?_   -- t80 := extract t73 1
  refine WL.val (Y.assign rfl) (by decide) ?_   -- t16 := assign t79
  refine WL.val (Y.assign rfl) (by decide) ?_   -- t17 := assign t80
  refine WL.nil ?_
  refine hK10 _ _ ?_; try clear hK10 K10
  refine CW.seq fun K11 hK11 => ?_
  refine CW.region ?_   -- region 9
  refine WL.val (Y.move rfl) (by decide) ?_   -- t82 := move t0
  refine WL.val (Y.move rfl) (by decide) ?_   -- t83 := move t5
  refine WL.val (Y.move rfl) (by decide) ?_   -- t84 := move t10
  refine WL.call Try.func19 rfl rfl rfl (two_sl _ _ a (hdL (ndsL l) (b ++ c)) _ ha hh6 (by omega)) (by simp) ?_; rintro v85 w15 hR15   -- t85 := call F19(t83, t84) : 23,23
  obtain ⟨ht15, hx15⟩ := hR15
  skip; have hz15 := hx15.size; have hE := hE.thenExt hx15; have hl := hl.ext hx15; have ha := ha.ext hx15; have hb := hb.ext hx15; have hc := hc.ext hx15; have hB3 := hB3.ext hx15; have hh4 := hh4.ext hx15; have hh6 := hh6.ext hx15; have hh9 := hh9.ext hx15; have hh12 := hh12.ext hx15; have hh14 := hh14.ext hx15
  refine WL.call Try.func14 rfl rfl rfl (gHeadsIn_any _ _ l (a ++ hdL (ndsL l) (b ++ c)) _ hl hok ht15 (app_in hia hBC)) (by simp) ?_; rintro v86 w16 hR16   -- t86 := call F14(t82, t85) : 22,23
  obtain ⟨hv16, rfl, hh16, hx16⟩ := hR16
  skip; have hz16 := hx16.size; have hE := hE.thenExt hx16; have hl := hl.ext hx16; have ha := ha.ext hx16; have hb := hb.ext hx16; have hc := hc.ext hx16; have hB3 := hB3.ext hx16; have hh4 := hh4.ext hx16; have hh6 := hh6.ext hx16; have hh9 := hh9.ext hx16; have hh12 := hh12.ext hx16; have hh14 := hh14.ext hx16
  refine WL.val (Y.move rfl) (by decide) ?_   -- t81 := move t86
  refine WL.val (Y.extract rfl rfl) (by decide) ?_   -- t87 := extract t81 0
  refine WL.val (Y.extract rfl rfl) (by decide) ?_   -- t88 := extract t81 1
  refine WL.val (Y.assign rfl) (by decide) ?_   -- t18 := assign t87
  refine WL.val (Y.assign rfl) (by decide) ?_   -- t19 := assign t88
  refine WL.nil ?_
  refine hK11 _ _ ?_; try clear hK11 K11
  refine CW.seq fun K12 hK12 => ?_
  refine CW.region ?_   -- region 10
  refine WL.val (Y.move rfl) (by decide) ?_   -- t90 := move t0
  refine WL.val (Y.move rfl) (by decide) ?_   -- t91 := move t8
  refine WL.val (Y.move rfl) (by decide) ?_   -- t92 := move t8
  refine WL.call Try.func19 rfl rfl rfl (two_sl _ _ (hdL (ndsL l) (a ++ b)) (hdL (ndsL l) (a ++ b)) _ hh4 hh4 (by omega)) (by simp) ?_; rintro v93 w17 hR17   -- t93 := call F19(t91, t92) : 23,23
  obtain ⟨ht17, hx17⟩ := hR17
  skip; have hz17 := hx17.size; have hE := hE.thenExt hx17; have hl := hl.ext hx17; have ha := ha.ext hx17; have hb := hb.ext hx17; have hc := hc.ext hx17; have hB3 := hB3.ext hx17; have hh4 := hh4.ext hx17; have hh6 := hh6.ext hx17; have hh9 := hh9.ext hx17; have hh12 := hh12.ext hx17; have hh14 := hh14.ext hx17; have hh16 := hh16.ext hx17
  refine WL.call Try.func14 rfl rfl rfl (gHeadsIn_any _ _ l (hdL (ndsL l) (a ++ b) ++ hdL (ndsL l) (a ++ b)) _ hl hok ht17 (app_in hAB hAB)) (by simp) ?_; rintro v94 w18 hR18   -- t94 := call F14(t90, t93) : 22,23
  obtain ⟨hv18, rfl, hh18, hx18⟩ := hR18
  skip; have hz18 := hx18.size; have hE := hE.thenExt hx18; have hl := hl.ext hx18; have ha := ha.ext hx18; have hb := hb.ext hx18; have hc := hc.ext hx18; have hB3 := hB3.ext hx18; have hh4 := hh4.ext hx18; have hh6 := hh6.ext hx18; have hh9 := hh9.ext hx18; have hh12 := hh12.ext hx18; have hh14 := hh14.ext hx18; have hh16 := hh16.ext hx18
  refine WL.val (Y.move rfl) (by decide) ?_   -- t89 := move t94
  refine WL.val (Y.extract rfl rfl) (by decide) ?_   -- t95 := extract t89 0
  refine WL.val (Y.extract rfl rfl) (by decide) ?_   -- t96 := extract t89 1
  refine WL.val (Y.assign rfl) (by decide) ?_   -- t20 := assign t95
  refine WL.val (Y.assign rfl) (by decide) ?_   -- t21 := assign t96
  refine WL.nil ?_
  refine hK12 _ _ ?_; try clear hK12 K12
  refine CW.seq fun K13 hK13 => ?_
  refine CW.region ?_   -- region 11
  refine WL.val (Y.move rfl) (by decide) ?_   -- t97 := move t8
  refine WL.val (Y.move rfl) (by decide) ?_   -- t98 := move t14
  refine WL.call Try.func17 rfl rfl rfl (rSameD_any _ _ _ _ _ hh4 hh12) (by simp) ?_; rintro v w19 ⟨rfl, hx19⟩; have hz19 := hx19.size; have hE := hE.thenExt hx19; have hl := hl.ext hx19; have ha := ha.ext hx19; have hb := hb.ext hx19; have hc := hc.ext hx19; have hB3 := hB3.ext hx19; have hh4 := hh4.ext hx19; have hh6 := hh6.ext hx19; have hh9 := hh9.ext hx19; have hh12 := hh12.ext hx19; have hh14 := hh14.ext hx19; have hh16 := hh16.ext hx19; have hh18 := hh18.ext hx19   -- t99 := call F17(t97, t98) : 23,23
  refine WL.val (Y.move rfl) (by decide) ?_   -- t100 := move t99
  refine WL.know (d := 100) (u := .bool true) rfl (by rw [hdL_comm hok hia hib, decide_eq_true rfl]) ?_
  refine WL.gval rfl rfl (Y.move rfl) (by decide) ?_   -- t101 := move t16 [if 3=true]
  refine WL.gval rfl rfl (Y.move rfl) (by decide) ?_   -- t102 := move t12 [if 3=true]
  refine WL.gcall rfl rfl Try.func17 rfl rfl rfl (rSameD_any _ _ _ _ _ hh14 hh9) (by decide) ?_; rintro v w20 ⟨rfl, hx20⟩; have hz20 := hx20.size; have hE := hE.thenExt hx20; have hl := hl.ext hx20; have ha := ha.ext hx20; have hb := hb.ext hx20; have hc := hc.ext hx20; have hB3 := hB3.ext hx20; have hh4 := hh4.ext hx20; have hh6 := hh6.ext hx20; have hh9 := hh9.ext hx20; have hh12 := hh12.ext hx20; have hh14 := hh14.ext hx20; have hh16 := hh16.ext hx20; have hh18 := hh18.ext hx20   -- t103 := call F17(t101, t102) : 23,23 [if 3=true]
  refine WL.val (Y.pick rfl rfl) (by decide) ?_   -- t104 := pick t100 t103 c(false)
  refine WL.val (Y.move rfl) (by decide) ?_   -- t105 := move t104
  refine WL.know (d := 105) (u := .bool true) rfl (by rw [hdL_left hok (app_in hia hib) hic, decide_eq_true rfl]) ?_
  refine WL.gval rfl rfl (Y.move rfl) (by decide) ?_   -- t106 := move t18 [if 8=true]
  refine WL.gval rfl rfl (Y.move rfl) (by decide) ?_   -- t107 := move t12 [if 8=true]
  refine WL.gcall rfl rfl Try.func17 rfl rfl rfl (rSameD_any _ _ _ _ _ hh16 hh9) (by decide) ?_; rintro v w21 ⟨rfl, hx21⟩; have hz21 := hx21.size; have hE := hE.thenExt hx21; have hl := hl.ext hx21; have ha := ha.ext hx21; have hb := hb.ext hx21; have hc := hc.ext hx21; have hB3 := hB3.ext hx21; have hh4 := hh4.ext hx21; have hh6 := hh6.ext hx21; have hh9 := hh9.ext hx21; have hh12 := hh12.ext hx21; have hh14 := hh14.ext hx21; have hh16 := hh16.ext hx21; have hh18 := hh18.ext hx21   -- t108 := call F17(t106, t107) : 23,23 [if 8=true]
  refine WL.val (Y.pick rfl rfl) (by decide) ?_   -- t109 := pick t105 t108 c(false)
  refine WL.val (Y.move rfl) (by decide) ?_   -- t110 := move t109
  refine WL.know (d := 110) (u := .bool true) rfl (by rw [hdL_right hok hia (app_in hib hic), List.append_assoc, decide_eq_true rfl]) ?_
  refine WL.gval rfl rfl (Y.move rfl) (by decide) ?_   -- t111 := move t20 [if 13=true]
  refine WL.gval rfl rfl (Y.move rfl) (by decide) ?_   -- t112 := move t8 [if 13=true]
  refine WL.gcall rfl rfl Try.func17 rfl rfl rfl (rSameD_any _ _ _ _ _ hh18 hh4) (by decide) ?_; rintro v w22 ⟨rfl, hx22⟩; have hz22 := hx22.size; have hE := hE.thenExt hx22; have hl := hl.ext hx22; have ha := ha.ext hx22; have hb := hb.ext hx22; have hc := hc.ext hx22; have hB3 := hB3.ext hx22; have hh4 := hh4.ext hx22; have hh6 := hh6.ext hx22; have hh9 := hh9.ext hx22; have hh12 := hh12.ext hx22; have hh14 := hh14.ext hx22; have hh16 := hh16.ext hx22; have hh18 := hh18.ext hx22   -- t113 := call F17(t111, t112) : 23,23 [if 13=true]
  refine WL.val (Y.pick rfl rfl) (by decide) ?_   -- t114 := pick t110 t113 c(false)
  refine WL.val (Y.move rfl) (by decide) ?_   -- t115 := move t114
  refine WL.know (d := 115) (u := .bool true) rfl (by rw [hdL_self hok (app_in hia hib), decide_eq_true rfl]) ?_
  refine WL.gcall rfl rfl Try.func18 rfl rfl rfl (alive_any _) (by decide) ?_; rintro v w23 ⟨rfl, hx23⟩; have hz23 := hx23.size; have hE := hE.thenExt hx23; have hl := hl.ext hx23; have ha := ha.ext hx23; have hb := hb.ext hx23; have hc := hc.ext hx23; have hB3 := hB3.ext hx23; have hh4 := hh4.ext hx23; have hh6 := hh6.ext hx23; have hh9 := hh9.ext hx23; have hh12 := hh12.ext hx23; have hh14 := hh14.ext hx23; have hh16 := hh16.ext hx23; have hh18 := hh18.ext hx23   -- t116 := call F18() :  [if 18=true]
  refine WL.val (Y.pick rfl rfl) (by decide) ?_   -- t117 := pick t115 t116 c(false)
  refine WL.val (Y.assign rfl) (by decide) ?_   -- t4 := assign t117
  refine WL.nil ?_
  refine hK13 _ _ ?_; try clear hK13 K13
  refine CW.ret ⟨_, rfl, ?_⟩
  exact ⟨rfl, hE⟩
end Go.Proofs.Ytecolkngbcgmcaa
