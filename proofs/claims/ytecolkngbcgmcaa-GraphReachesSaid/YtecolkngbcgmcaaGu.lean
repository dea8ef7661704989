/- The order of marked nodes, walked. No condition. (NOT BUILT: fills are lacking) -/
import Derived.Test.YtecolkngbcgmcaaGt
set_option linter.unusedSimpArgs false
set_option linter.unusedVariables false
namespace Go.Proofs.Ytecolkngbcgmcaa
open Go.RowKit Go.Fw Go.Pl Go.Sort
def bestI : Option Nat → Int
  | none => -1
  | some b => (b : Int)
theorem bestI_neg {o : Option Nat} : bestI o < 0 ↔ o = none := by
  cases o with
  | none => simp [bestI]
  | some b => simp [bestI]

set_option maxRecDepth 100000 in
set_option maxHeartbeats 2000000 in
theorem gorderL_any (wb w : World) (gk r sb b : Nat) (u : Value) (l : List NdV) (S0 In : List Bool) (hK : LookAt wb w gk r sb u l S0) (hIn : Blk w b TBo (boolC In)) (hil : In.length = l.length) : Calls Try.prog 41 #[.pointer (some ⟨gk, 0, none⟩), .slice (some ⟨b, 0, none⟩) l.length l.length] w (Ret fun v w' => Own w' TDg 32 v (flatD (orderL (ndsL l) In)) ∧ (∀ k, v.ownBlock = some k → w.heap.size ≤ k) ∧ Ext w w') := by
  have hK0 := hK
  have hIn0 := hIn
  have hltI := hIn.lt
  obtain ⟨A, c, rfl, hmc, hcm⟩ := hK.nds.sl.lens
  unfold maxLen at hcm
  have hln := ok_len hK.ok
  have hnl : (ndsL l).length = l.length := by simp
  have hltK := hK.lt
  have hzK := hK.old.size
  obtain ⟨bi, hbi, hbz, hbs, hbb⟩ := info_boolT
  obtain ⟨id, hid, hzd, _⟩ := info_apiNode
  refine calls_of_CW 79 [4] [(0, .pointer (some ⟨gk, 0, none⟩)), (1, .slice (some ⟨b, 0, none⟩) l.length l.length)] Try.func41 rfl rfl rfl (by simp) args2 ?_
  have hE : Ext w w := Chg.refl
  refine CW.seq fun K1 hK1 => ?_
  refine CW.region ?_   -- region 0
  refine WL.box rfl rfl (by decide) fun g2 w1 hx1 hg2 hB2 => ?_   -- t2 := box 55 t0
  have hlt2 := hB2.lt; have hz1 := hx1.size
  have hM2 := hB2.mem; have hz1 := hx1.size; have hE := hE.thenExt hx1; have hK := hK.ext hx1
  refine WL.val (Y.assign rfl) (by decide) ?_   -- t4 := assign c(nilslice)
  refine WL.nil ?_
  refine hK1 _ _ ?_; try clear hK1 K1
  refine CW.seq fun K2 hK2 => ?_
  refine CW.region ?_   -- region 1
  refine WL.val (Y.load1 Try.underlying55 rfl hB2.mem.cell0 rfl) (by decide) ?_   -- t10 := load 55 t2
  refine WL.val (Y.nilCheck rfl) (by decide) ?_   -- t11 := nilCheck t10
  refine WL.val (Y.fieldAddr fo_graphlook0 rfl) (by decide) ?_   -- t12 := fieldAddr 61 t11 0
  refine WL.val (Y.load1 Try.underlying22 rfl hK.blk.mem.graphlook0 rfl) (by decide) ?_   -- t13 := load 22 t12
  refine WL.val (Y.len_slice Try.underlying22 rfl) (by decide) ?_   -- t14 := call len(t13) : 22
  refine WL.st (St.makeB Try.underlying58 hbi hbz hbs hbb rfl rfl (by omega)) (by decide) fun v15 w2 hR2 => ?_   -- t15 := makeSlice 58 t14 t14
  obtain ⟨cb, rfl, hcb, hC, hx2⟩ := hR2
  have hz2 := hx2.size
  have hE := hE.thenExt hx2
  have hK := hK.ext hx2
  have hB2 := hB2.ext hx2
  have hltc := hC.lt
  refine WL.allocStore1 (by kernel_rfl) rfl (by simp) rfl rfl (by decide) fun g5 w3 hx3 hg5 hB5 => ?_   -- alloc 58; store 58 t5 t15
  have hlt5 := hB5.lt; have hz3 := hx3.size
  have hM5 := hB5.mem; have hz3 := hx3.size; have hE := hE.thenExt hx3; have hK := hK.ext hx3; have hB2 := hB2.ext hx3
  refine WL.nil ?_
  refine hK2 _ _ ?_; try clear hK2 K2
  refine CW.seq fun K3 hK3 => ?_
  refine CW.region ?_   -- region 2
  refine WL.val (Y.assign rfl) (by decide) ?_   -- t6 := assign c(nilslice)
  refine WL.nil ?_
  refine hK3 _ _ ?_; try clear hK3 K3
  refine CW.block ?_   -- block 0
  refine CW.loop (X := Nat × List Bool × Value × List Dig) (fun x => [(0, .pointer (some ⟨gk, 0, none⟩)), (1, .slice (some ⟨b, 0, none⟩) l.length l.length), (2, .pointer (some ⟨g2, 0, none⟩)), (5, .pointer (some ⟨g5, 0, none⟩)), (6, x.2.2.1)]) (fun x w0 => Blk w0 g2 TPk [.pointer (some ⟨gk, 0, none⟩)] ∧ Blk w0 g5 TSb [.slice (some ⟨cb, 0, none⟩) l.length l.length] ∧ Blk w0 cb TBo (boolC x.2.1) ∧ x.2.1.length = l.length ∧ Own w0 TDg 32 x.2.2.1 (flatD x.2.2.2) ∧ (∀ k, x.2.2.1.ownBlock = some k → w3.heap.size ≤ k) ∧ x.2.2.2.length + x.2.1.count false = l.length ∧ x.2.1.count false < x.1 ∧ orderL (ndsL l) In = orderD (ndsL l) In x.1 x.2.1 x.2.2.2 ∧ Ext w w0 ∧ w3.heap.size ≤ w0.heap.size) (fun x => x.1) (l.length + 1, List.replicate l.length false, .slice none 0 0, []) (by repeat (first | exact Fr.le.nil | refine Fr.le.cons rfl ?_)) ⟨hB2, hB5, hC.ext hx3, by simp, Own.nil, (fun k h => by simp [Value.ownBlock] at h), by simp, by simp, (by rw [orderL, hnl]), hE, Nat.le_refl _⟩ ?_
  intro x w4 hl4
  clear hE hK hB2 hB5 hC
  obtain ⟨fu, C, v, out⟩ := x
  dsimp only at hl4 ⊢
  obtain ⟨hB2, hB5, hC, hCl, hO, hfu, hcl, hcf, hor, hE, hz4⟩ := hl4
  have hK := hK0.ext hE
  have hIn := hIn0.ext hE
  obtain ⟨B, mb, cb2, rfl⟩ := hO.lens
  have hlo := hO.lt
  refine CW.block ?_   -- block 1
  refine CW.seq fun K4 hK4 => ?_
  refine CW.region ?_   -- region 3
  refine WL.val (Y.assign rfl) (by decide) ?_   -- t7 := assign c(-1:i64)
  refine WL.nil ?_
  refine hK4 _ _ ?_; try clear hK4 K4
  refine CW.seq fun K5 hK5 => ?_
  refine CW.seq fun K6 hK6 => ?_
  refine CW.region ?_   -- region 4
  refine WL.val (Y.load1 Try.underlying55 rfl hB2.mem.cell0 rfl) (by decide) ?_   -- t16 := load 55 t2
  refine WL.val (Y.nilCheck rfl) (by decide) ?_   -- t17 := nilCheck t16
  refine WL.val (Y.fieldAddr fo_graphlook0 rfl) (by decide) ?_   -- t18 := fieldAddr 61 t17 0
  refine WL.val (Y.load1 Try.underlying22 rfl hK.blk.mem.graphlook0 rfl) (by decide) ?_   -- t19 := load 22 t18
  refine WL.val (Y.len_slice Try.underlying22 rfl) (by decide) ?_   -- t20 := call len(t19) : 22
  refine WL.val (Y.move rfl) (by decide) ?_   -- t21 := move c(0:i64)
  refine WL.nil ?_
  refine hK6 _ _ ?_; try clear hK6 K6
  refine CW.block ?_   -- block 2
  refine CW.loop (X := Nat × Option Nat) (fun x => [(0, .pointer (some ⟨gk, 0, none⟩)), (1, .slice (some ⟨b, 0, none⟩) l.length l.length), (2, .pointer (some ⟨g2, 0, none⟩)), (5, .pointer (some ⟨g5, 0, none⟩)), (6, .slice B mb cb2), (7, .int .i64 (bestI x.2)), (19, .slice A l.length c), (20, .int .i64 (l.length : Int)), (21, .int .i64 (x.1 : Int))]) (fun x w0 => x.1 ≤ l.length ∧ x.2 = bestD (ndsL l) In C x.1 ∧ Ext w4 w0) (fun x => l.length - x.1) (0, none) (by repeat (first | exact Fr.le.nil | refine Fr.le.cons rfl ?_)) ⟨Nat.zero_le _, rfl, Chg.refl⟩ ?_
  intro x w5 hl5
  obtain ⟨i, best⟩ := x
  dsimp only at hl5 ⊢
  obtain ⟨hil5, hbest, hx5⟩ := hl5
  have hz5 := hx5.size
  have hE := hE.thenExt hx5
  have hK := hK.ext hx5
  have hB2 := hB2.ext hx5
  have hB5 := hB5.ext hx5
  have hC := hC.ext hx5
  have hIn := hIn.ext hx5
  have hO := hO.ext hx5
  refine CW.seq fun K7 hK7 => ?_
  refine CW.region ?_   -- region 5
  refine WL.val (Y.lss rfl rfl) (by decide) ?_   -- t22 := binOp lss 3 t21 t20 3
  refine WL.nil ?_
  refine hK7 _ _ ?_; try clear hK7 K7
  refine CW.seq fun K8 hK8 => ?_
  first | refine CW.condD rfl (fun ht9 => ?_) (fun ht9 => ?_) | refine CW.condND rfl (fun ht9 => ?_) (fun ht9 => ?_) | refine CW.condN rfl (fun ht9 => ?_) (fun ht9 => ?_) | refine CW.cond rfl (fun ht9 => ?_) (fun ht9 => ?_)
  · -- then
    refine CW.skip ?_
    refine hK8 _ _ ?_; try clear hK8 K8
    obtain ⟨y, hy⟩ : ∃ y, l[i]? = some y := ⟨_, List.getElem?_eq_getElem (by omega)⟩
    obtain ⟨⟨id, ps⟩, Ay, cy⟩ := y
    have hyn : (ndsL l)[i]? = some ⟨id, ps⟩ := by simp [hy]
    obtain ⟨ci, hci⟩ : ∃ c, In[i]? = some c := ⟨_, List.getElem?_eq_getElem (by omega)⟩
    obtain ⟨cu, hcu⟩ : ∃ c, C[i]? = some c := ⟨_, List.getElem?_eq_getElem (by omega)⟩
    obtain ⟨a, rfl, hma⟩ := hK0.nds.sl.at hy
    refine CW.seq_to (X := Option Nat) (fun u => [(0, .pointer (some ⟨gk, 0, none⟩)), (1, .slice (some ⟨b, 0, none⟩) l.length l.length), (2, .pointer (some ⟨g2, 0, none⟩)), (5, .pointer (some ⟨g5, 0, none⟩)), (6, .slice B mb cb2), (7, .int .i64 (bestI u)), (19, .slice (some a) l.length c), (20, .int .i64 (l.length : Int)), (21, .int .i64 (i : Int))]) (fun u w0 => u = bestD (ndsL l) In C (i + 1) ∧ Ext w5 w0) ?_ ?_
    · skip
      refine CW.block ?_   -- block 3
      refine CW.seq fun K11 hK11 => ?_
      refine CW.region ?_   -- region 6
      refine WL.val (Y.move rfl) (by decide) ?_   -- t23 := move t21
      refine WL.val (Y.indexAddrN Try.underlying22 rfl rfl sz0_apiNode (by omega)) (by decide) ?_   -- t24 := indexAddr 22 t19 t21
      refine WL.val (Y.load Try.underlying48 rfl (hma.ext hK.old) (sz_apiNode _) rfl) (by decide) ?_   -- t25 := load 48 t24
      refine WL.alloc (hid) (hzd) rfl (by decide) fun g9 w6 hx6 hg9 hB9 => ?_   -- t9 := alloc 48
      have hlt9 := hB9.lt; have hz6 := hx6.size
      have hM9 := hB9.mem; have hz6 := hx6.size; have hE := hE.thenExt hx6; have hK := hK.ext hx6; have hB2 := hB2.ext hx6; have hB5 := hB5.ext hx6
      refine WL.val (Y.assign rfl) (by decide) ?_   -- t8 := assign t23
      refine WL.store (g := g9) (pre := []) (old := ndC NdV.zero) (post := []) (new := ndC ⟨⟨id, ps⟩, Ay, cy⟩) rfl rfl rfl rfl (sz_apiNode _) (by simpa using hB9) (by rw [ndC_length, ndC_length]) (one_ndC) (fun w7 hc7 hB7_ => ?_)   -- _ := store 48 t9 t25
      have hz7 := hc7.size; have hE := hE.step hc7 (fun k h => by omega); have hK := hK.chg hc7 (fun h => by omega) (fun h => by omega) (fun h => by omega) (fun k h => by omega); have hB2 := hB2.chg hc7 (fun h => by omega); have hB5 := hB5.chg hc7 (fun h => by omega)
      have hB9 : Blk w7 g9 TNo (ndC ⟨⟨id, ps⟩, Ay, cy⟩) := by simpa using hB7_
      have hC := (hC.ext hx6).chg hc7 (fun h => by omega)
      have hIn := (hIn.ext hx6).chg hc7 (fun h => by omega)
      refine WL.nil ?_
      refine hK11 _ _ ?_; try clear hK11 K11
      refine CW.seq fun K12 hK12 => ?_
      refine CW.seq_testE 54 (¬ ci = true ∨ cu = true ∨ (0 ≤ bestI best ∧ ¬ lessB id (idAt (ndsL l) (best.getD 0)) = true)) ?_ ?_
      · refine CW.quiet (fun wq => Ext w7 wq) (by kernel_rfl) (by kernel_rfl) Chg.drew ?_
        refine QL.val (fun wq hq => Y.move rfl) (by decide) ?_   -- t26 := move t1
        refine QL.val (fun wq hq => Y.move rfl) (by decide) ?_   -- t27 := move t8
        refine QL.val (fun wq hq => Y.indexAddrN Try.underlying58 rfl rfl sz0_bool (by omega)) (by decide) ?_   -- t28 := indexAddr 58 t26 t27
        refine QL.val (fun wq hq => Y.load1 Try.underlying4 rfl ((hIn.ext hq).bcell hci) rfl) (by decide) ?_   -- t29 := load 4 t28
        refine QL.val (fun wq hq => Y.not rfl) (by decide) ?_   -- t30 := unOp not 4 t29
        refine QL.val (fun wq hq => Y.move rfl) (by decide) ?_   -- t31 := move t30
        first | refine QL.casesD (d := 31) rfl (fun hg31 => ?_) (fun hg31 => ?_) | refine QL.casesND (d := 31) rfl (fun hg31 => ?_) (fun hg31 => ?_) | refine QL.cases (d := 31) rfl (fun hg31 => ?_) (fun hg31 => ?_)
        · -- t31 = T
          refine QL.goff rfl rfl (by decide) ?_   -- t32 := load 58 t5 [if 5=false]
          refine QL.goff rfl rfl (by decide) ?_   -- t33 := move t8 [if 5=false]
          refine QL.goff rfl rfl (by decide) ?_   -- t34 := indexAddr 58 t32 t33 [if 5=false]
          refine QL.goff rfl rfl (by decide) ?_   -- t35 := load 4 t34 [if 5=false]
          refine QL.val (fun wq hq => Y.pick rfl rfl) (by decide) ?_   -- t36 := pick t31 c(true) t35
          refine QL.val (fun wq hq => Y.move rfl) (by decide) ?_   -- t37 := move t36
          refine QL.goff rfl rfl (by decide) ?_   -- t38 := move t7 [if 11=false]
          refine QL.goff rfl rfl (by decide) ?_   -- t39 := binOp geq 3 t38 c(0:i64) 3 [if 11=false]
          refine QL.goff rfl rfl (by decide) ?_   -- t40 := move t39 [if 11=false]
          refine QL.goffU rfl rfl (by decide) ?_   -- t41 := fieldAddr 48 t9 0 [if 14=true]
          refine QL.goffU rfl rfl (by decide) ?_   -- t42 := load 45 t41 [if 14=true]
          refine QL.goffU rfl rfl (by decide) ?_   -- t43 := load 55 t2 [if 14=true]
          refine QL.goffU rfl rfl (by decide) ?_   -- t44 := nilCheck t43 [if 14=true]
          refine QL.goffU rfl rfl (by decide) ?_   -- t45 := fieldAddr 61 t44 0 [if 14=true]
          refine QL.goffU rfl rfl (by decide) ?_   -- t46 := load 22 t45 [if 14=true]
          refine QL.goffU rfl rfl (by decide) ?_   -- t47 := move t7 [if 14=true]
          refine QL.goffU rfl rfl (by decide) ?_   -- t48 := indexAddr 22 t46 t47 [if 14=true]
          refine QL.goffU rfl rfl (by decide) ?_   -- t49 := fieldAddr 48 t48 0 [if 14=true]
          refine QL.goffU rfl rfl (by decide) ?_   -- t50 := load 45 t49 [if 14=true]
          refine QL.goffU rfl rfl (by decide) ?_   -- t51 := call F53(t42, t50) : 45,45 [if 14=true]
          refine QL.goffU rfl rfl (by decide) ?_   -- t52 := unOp not 4 t51 [if 14=true]
          refine QL.goff rfl rfl (by decide) ?_   -- t53 := pick t40 t52 c(false) [if 11=false]
          refine QL.val (fun wq hq => Y.pick rfl rfl) (by decide) ?_   -- t54 := pick t37 c(true) t53
          refine QL.nil fun wq hq => ⟨⟨_, rfl, ?_⟩, hq, (by repeat (first | exact Fr.le.refl | refine Fr.le.push rfl ?_))⟩
          first | (simp only [*, Int.natCast_inj, Bool.not_eq_true', decide_eq_false_iff_not, decide_eq_true_eq, not_true_eq_false, not_false_eq_true, true_and, false_and, and_true, and_false, false_or, or_false, true_or, or_true, iff_true, true_iff, iff_false, false_iff]; done) | (simp_all; done) | (refine congrArg Value.bool (Bool.eq_iff_iff.2 ?_); simp_all; done) | (simp_all; omega)
        · -- t31 = F
          refine QL.gval rfl rfl (fun wq hq => Y.load1 Try.underlying58 rfl (hB5.ext hq).mem.cell0 rfl) (by decide) ?_   -- t32 := load 58 t5 [if 5=false]
          refine QL.gval rfl rfl (fun wq hq => Y.move rfl) (by decide) ?_   -- t33 := move t8 [if 5=false]
          refine QL.gval rfl rfl (fun wq hq => Y.indexAddrN Try.underlying58 rfl rfl sz0_bool (by omega)) (by decide) ?_   -- t34 := indexAddr 58 t32 t33 [if 5=false]
          refine QL.gval rfl rfl (fun wq hq => Y.load1 Try.underlying4 rfl ((hC.ext hq).bcell hcu) rfl) (by decide) ?_   -- t35 := load 4 t34 [if 5=false]
          refine QL.val (fun wq hq => Y.pick rfl rfl) (by decide) ?_   -- t36 := pick t31 c(true) t35
          refine QL.val (fun wq hq => Y.move rfl) (by decide) ?_   -- t37 := move t36
          first | refine QL.casesD (d := 37) rfl (fun hg37 => ?_) (fun hg37 => ?_) | refine QL.casesND (d := 37) rfl (fun hg37 => ?_) (fun hg37 => ?_) | refine QL.cases (d := 37) rfl (fun hg37 => ?_) (fun hg37 => ?_)
          · -- t37 = T
            refine QL.goff rfl rfl (by decide) ?_   -- t38 := move t7 [if 11=false]
            refine QL.goff rfl rfl (by decide) ?_   -- t39 := binOp geq 3 t38 c(0:i64) 3 [if 11=false]
            refine QL.goff rfl rfl (by decide) ?_   -- t40 := move t39 [if 11=false]
            refine QL.goffU rfl rfl (by decide) ?_   -- t41 := fieldAddr 48 t9 0 [if 14=true]
            refine QL.goffU rfl rfl (by decide) ?_   -- t42 := load 45 t41 [if 14=true]
            refine QL.goffU rfl rfl (by decide) ?_   -- t43 := load 55 t2 [if 14=true]
            refine QL.goffU rfl rfl (by decide) ?_   -- t44 := nilCheck t43 [if 14=true]
            refine QL.goffU rfl rfl (by decide) ?_   -- t45 := fieldAddr 61 t44 0 [if 14=true]
            refine QL.goffU rfl rfl (by decide) ?_   -- t46 := load 22 t45 [if 14=true]
            refine QL.goffU rfl rfl (by decide) ?_   -- t47 := move t7 [if 14=true]
            refine QL.goffU rfl rfl (by decide) ?_   -- t48 := indexAddr 22 t46 t47 [if 14=true]
            refine QL.goffU rfl rfl (by decide) ?_   -- t49 := fieldAddr 48 t48 0 [if 14=true]
            refine QL.goffU rfl rfl (by decide) ?_   -- t50 := load 45 t49 [if 14=true]
            refine QL.goffU rfl rfl (by decide) ?_   -- t51 := call F53(t42, t50) : 45,45 [if 14=true]
            refine QL.goffU rfl rfl (by decide) ?_   -- t52 := unOp not 4 t51 [if 14=true]
            refine QL.goff rfl rfl (by decide) ?_   -- t53 := pick t40 t52 c(false) [if 11=false]
            refine QL.val (fun wq hq => Y.pick rfl rfl) (by decide) ?_   -- t54 := pick t37 c(true) t53
            refine QL.nil fun wq hq => ⟨⟨_, rfl, ?_⟩, hq, (by repeat (first | exact Fr.le.refl | refine Fr.le.push rfl ?_))⟩
            first | (simp only [*, Int.natCast_inj, Bool.not_eq_true', decide_eq_false_iff_not, decide_eq_true_eq, not_true_eq_false, not_false_eq_true, true_and, false_and, and_true, and_false, false_or, or_false, true_or, or_true, iff_true, true_iff, iff_false, false_iff]; done) | (simp_all; done) | (refine congrArg Value.bool (Bool.eq_iff_iff.2 ?_); simp_all; done) | (simp_all; omega)
          · -- t37 = F
            refine QL.gval rfl rfl (fun wq hq => Y.move rfl) (by decide) ?_   -- t38 := move t7 [if 11=false]
            refine QL.gval rfl rfl (fun wq hq => Y.geq rfl rfl) (by decide) ?_   -- t39 := binOp geq 3 t38 c(0:i64) 3 [if 11=false]
            refine QL.gval rfl rfl (fun wq hq => Y.move rfl) (by decide) ?_   -- t40 := move t39 [if 11=false]
            first | refine QL.casesD (d := 40) rfl (fun hg40 => ?_) (fun hg40 => ?_) | refine QL.casesND (d := 40) rfl (fun hg40 => ?_) (fun hg40 => ?_) | refine QL.cases (d := 40) rfl (fun hg40 => ?_) (fun hg40 => ?_)
            · -- t40 = T
              refine QL.gval rfl rfl (fun wq hq => Y.fieldAddr fo_apiNode0 rfl) (by decide) ?_   -- t41 := fieldAddr 48 t9 0 [if 14=true]
              refine QL.gval rfl rfl (fun wq hq => Y.load Try.underlying45 rfl (hB9.ext hq).mem.node0 (sz_apiDigest _) rfl) (by decide) ?_   -- t42 := load 45 t41 [if 14=true]
              refine QL.gval rfl rfl (fun wq hq => Y.load1 Try.underlying55 rfl (hB2.ext hq).mem.cell0 rfl) (by decide) ?_   -- t43 := load 55 t2 [if 14=true]
              refine QL.gval rfl rfl (fun wq hq => Y.nilCheck rfl) (by decide) ?_   -- t44 := nilCheck t43 [if 14=true]
              refine QL.gval rfl rfl (fun wq hq => Y.fieldAddr fo_graphlook0 rfl) (by decide) ?_   -- t45 := fieldAddr 61 t44 0 [if 14=true]
              refine QL.gval rfl rfl (fun wq hq => Y.load1 Try.underlying22 rfl (hK.ext hq).blk.mem.graphlook0 rfl) (by decide) ?_   -- t46 := load 22 t45 [if 14=true]
              refine QL.gval rfl rfl (fun wq hq => Y.move rfl) (by decide) ?_   -- t47 := move t7 [if 14=true]
              obtain ⟨b0, rfl⟩ : ∃ b0, best = some b0 := by
                cases best with
                | none => exfalso; revert hg40; simp [bestI]
                | some b0 => exact ⟨b0, rfl⟩
              have hb0 := bestD_some hbest.symm
              obtain ⟨y0, hy0⟩ : ∃ y0, l[b0]? = some y0 := ⟨_, List.getElem?_eq_getElem (by omega)⟩
              obtain ⟨⟨id0, ps0⟩, A0, c0⟩ := y0
              obtain ⟨a0, ha0, hmb⟩ := hK0.nds.sl.at hy0
              cases ha0
              have hid0 : idAt (ndsL l) b0 = id0 := by simp [idAt, hy0]
              have hbi0 : 0 ≤ bestI (some b0) := Int.natCast_nonneg b0
              have hbi1 : (0 : Int) ≤ (b0 : Int) := Int.natCast_nonneg b0
              have hgd : (some b0).getD 0 = b0 := rfl
              dsimp only [bestI]
              refine QL.gval rfl rfl (fun wq hq => Y.indexAddrN Try.underlying22 rfl rfl sz0_apiNode (by omega)) (by decide) ?_   -- t48 := indexAddr 22 t46 t47 [if 14=true]
              refine QL.gval rfl rfl (fun wq hq => Y.fieldAddr fo_apiNode0 rfl) (by decide) ?_   -- t49 := fieldAddr 48 t48 0 [if 14=true]
              refine QL.gval rfl rfl (fun wq hq => Y.load Try.underlying45 rfl (hmb.ext (hK.old.thenExt hq)).node0 (sz_apiDigest _) rfl) (by decide) ?_   -- t50 := load 45 t49 [if 14=true]
              refine QL.gcall rfl rfl Try.func53 rfl rfl rfl (fun wq hq => ret_ext (less_any _ _ _) hq) (by decide) ?_   -- t51 := call F53(t42, t50) : 45,45 [if 14=true]
              refine QL.gval rfl rfl (fun wq hq => Y.not rfl) (by decide) ?_   -- t52 := unOp not 4 t51 [if 14=true]
              refine QL.gval rfl rfl (fun wq hq => Y.pick rfl rfl) (by decide) ?_   -- t53 := pick t40 t52 c(false) [if 11=false]
              refine QL.val (fun wq hq => Y.pick rfl rfl) (by decide) ?_   -- t54 := pick t37 c(true) t53
              refine QL.nil fun wq hq => ⟨⟨_, rfl, ?_⟩, hq, (by repeat (first | exact Fr.le.refl | refine Fr.le.push rfl ?_))⟩
              first | (simp only [*, Int.natCast_inj, Bool.not_eq_true', decide_eq_false_iff_not, decide_eq_true_eq, not_true_eq_false, not_false_eq_true, true_and, false_and, and_true, and_false, false_or, or_false, true_or, or_true, iff_true, true_iff, iff_false, false_iff]; done) | (simp_all; done) | (refine congrArg Value.bool (Bool.eq_iff_iff.2 ?_); simp_all; done) | (simp_all; omega)
            · -- t40 = F
              refine QL.goff rfl rfl (by decide) ?_   -- t41 := fieldAddr 48 t9 0 [if 14=true]
              refine QL.goff rfl rfl (by decide) ?_   -- t42 := load 45 t41 [if 14=true]
              refine QL.goff rfl rfl (by decide) ?_   -- t43 := load 55 t2 [if 14=true]
              refine QL.goff rfl rfl (by decide) ?_   -- t44 := nilCheck t43 [if 14=true]
              refine QL.goff rfl rfl (by decide) ?_   -- t45 := fieldAddr 61 t44 0 [if 14=true]
              refine QL.goff rfl rfl (by decide) ?_   -- t46 := load 22 t45 [if 14=true]
              refine QL.goff rfl rfl (by decide) ?_   -- t47 := move t7 [if 14=true]
              refine QL.goff rfl rfl (by decide) ?_   -- t48 := indexAddr 22 t46 t47 [if 14=true]
              refine QL.goff rfl rfl (by decide) ?_   -- t49 := fieldAddr 48 t48 0 [if 14=true]
              refine QL.goff rfl rfl (by decide) ?_   -- t50 := load 45 t49 [if 14=true]
              refine QL.goff rfl rfl (by decide) ?_   -- t51 := call F53(t42, t50) : 45,45 [if 14=true]
              refine QL.goff rfl rfl (by decide) ?_   -- t52 := unOp not 4 t51 [if 14=true]
              refine QL.gval rfl rfl (fun wq hq => Y.pick rfl rfl) (by decide) ?_   -- t53 := pick t40 t52 c(false) [if 11=false]
              refine QL.val (fun wq hq => Y.pick rfl rfl) (by decide) ?_   -- t54 := pick t37 c(true) t53
              refine QL.nil fun wq hq => ⟨⟨_, rfl, ?_⟩, hq, (by repeat (first | exact Fr.le.refl | refine Fr.le.push rfl ?_))⟩
              first | (simp only [*, Int.natCast_inj, Bool.not_eq_true', decide_eq_false_iff_not, decide_eq_true_eq, not_true_eq_false, not_false_eq_true, true_and, false_and, and_true, and_false, false_or, or_false, true_or, or_true, iff_true, true_iff, iff_false, false_iff]; done) | (simp_all; done) | (refine congrArg Value.bool (Bool.eq_iff_iff.2 ?_); simp_all; done) | (simp_all; omega)
      intro w8 hx8; have hz8 := hx8.size; have hE := hE.thenExt hx8; have hK := hK.ext hx8; have hB2 := hB2.ext hx8; have hB5 := hB5.ext hx8; have hB9 := hB9.ext hx8
      first | refine CW.condD rfl (fun ht13 => ?_) (fun ht13 => ?_) | refine CW.condND rfl (fun ht13 => ?_) (fun ht13 => ?_) | refine CW.condN rfl (fun ht13 => ?_) (fun ht13 => ?_) | refine CW.cond rfl (fun ht13 => ?_) (fun ht13 => ?_)
      · -- then
        refine CW.exit ?_   -- exit 3
        refine ⟨best, (by repeat (first | exact Fr.le.nil | refine Fr.le.cons rfl ?_)), ?_, (hx6.step hc7 (fun k h => by omega)).thenExt hx8⟩
        rw [bestD_at hyn, ← hbest, if_neg]
        rw [nextB_iff]
        rintro ⟨h1, h2, h3, _⟩
        rcases ht13 with h | h | ⟨h5, h6⟩
        · rw [hci] at h1; cases h1; exact h rfl
        · rw [hcu, h] at h2; exact h2 rfl
        · cases best with
          | none => exact absurd h5 (by decide)
          | some b0 => exact h6 (h3 b0 rfl)
      -- else
      refine CW.skip ?_
      refine hK12 _ _ ?_; try clear hK12 K12
      refine CW.seq fun K14 hK14 => ?_
      refine CW.region ?_   -- region 8
      refine WL.val (Y.fieldAddr fo_apiNode1 rfl) (by decide) ?_   -- t55 := fieldAddr 48 t9 1
      refine WL.val (Y.load1 Try.underlying23 rfl hB9.mem.node1 rfl) (by decide) ?_   -- t56 := load 23 t55
      refine WL.val (Y.makeFunc rfl) (by decide) ?_   -- t57 := makeFunc ['Go.Fn.func', '54'] [] [t5, t2]
      refine WL.call Try.func46 rfl rfl rfl (containsFunc_any (fun d => !bitAt C (ndsL l) d) [.pointer (some ⟨g5, 0, none⟩), .pointer (some ⟨g2, 0, none⟩)] _ ps _ Try.func54 rfl rfl (fun d w1 hd hx => gorder1_any wb w1 gk r sb cb g5 g2 _ l S0 C d (hK.ext hx) ((hC.ext hx8).ext hx) hCl (hB5.ext hx) (hB2.ext hx) (mem_idsTake (ok_par hK0.ok hyn hd))) ((hK.nds.ps _ (List.mem_of_getElem? hy)).ext hK.old)) (by simp) ?_; rintro v w9 ⟨rfl, hx9⟩; have hz9 := hx9.size; have hE := hE.thenExt hx9; have hK := hK.ext hx9; have hB2 := hB2.ext hx9; have hB5 := hB5.ext hx9; have hB9 := hB9.ext hx9   -- t58 := call F46(t56, t57) : 23,71
      refine WL.val (Y.not rfl) (by decide) ?_   -- t59 := unOp not 4 t58
      refine WL.nil ?_
      refine hK14 _ _ ?_; try clear hK14 K14
      first | refine CW.condD rfl (fun ht15 => ?_) (fun ht15 => ?_) | refine CW.condND rfl (fun ht15 => ?_) (fun ht15 => ?_) | refine CW.condN rfl (fun ht15 => ?_) (fun ht15 => ?_) | refine CW.cond rfl (fun ht15 => ?_) (fun ht15 => ?_)
      · -- then
        refine CW.region ?_   -- region 9
        refine WL.val (Y.move rfl) (by decide) ?_   -- t60 := move t8
        refine WL.val (Y.assign rfl) (by decide) ?_   -- t7 := assign t60
        refine WL.nil ?_
        refine ⟨some i, (by repeat (first | exact Fr.le.nil | refine Fr.le.cons rfl ?_)), ?_, ((hx6.step hc7 (fun k h => by omega)).thenExt hx8).thenExt hx9⟩
        rw [bestD_at hyn, ← hbest, if_pos]
        rw [nextB_iff, hci, hcu]
        refine ⟨by simp_all, by simp_all, ?_, by simpa using ht15⟩
        intro b0 hb0
        subst hb0
        have hbi0 : 0 ≤ bestI (some b0) := Int.natCast_nonneg b0
        exact Decidable.not_not.1 fun h => (by assumption : ¬ (¬ ci = true ∨ cu = true ∨ (0 ≤ bestI (some b0) ∧ ¬ lessB id (idAt (ndsL l) ((some b0).getD 0)) = true))) (.inr (.inr ⟨hbi0, h⟩))
      -- else
      refine CW.skip ?_
      refine ⟨best, (by repeat (first | exact Fr.le.nil | refine Fr.le.cons rfl ?_)), ?_, ((hx6.step hc7 (fun k h => by omega)).thenExt hx8).thenExt hx9⟩
      rw [bestD_at hyn, ← hbest, if_neg]
      rw [nextB_iff]
      rintro ⟨_, _, _, h4⟩
      simp_all
    rintro u w10 hj10
    obtain ⟨hu, hx10⟩ := hj10
    refine CW.region ?_   -- region 10
    refine WL.val (Y.add rfl rfl ⟨by omega, by omega⟩) (by decide) ?_   -- t61 := binOp add 3 t21 c(1:i64) 3
    refine WL.val (Y.move rfl) (by decide) ?_   -- t21 := move t61
    refine WL.nil ?_
    exact ⟨(i + 1, u), by show l.length - (i + 1) < l.length - i; omega, (by repeat (first | exact Fr.le.nil | refine Fr.le.cons rfl ?_)), by show i + 1 ≤ l.length; omega, hu, hx5.thenExt hx10⟩
  -- else
  refine CW.exit ?_   -- exit 2
  refine hK5 _ _ ?_; try clear hK5 K5
  refine CW.seq fun K16 hK16 => ?_
  refine CW.seq fun K17 hK17 => ?_
  refine CW.region ?_   -- region 11
  refine WL.val (Y.move rfl) (by decide) ?_   -- t62 := move t7
  refine WL.val (Y.lss rfl rfl) (by decide) ?_   -- t63 := binOp lss 3 t62 c(0:i64) 3
  refine WL.nil ?_
  refine hK17 _ _ ?_; try clear hK17 K17
  first | refine CW.condD rfl (fun ht18 => ?_) (fun ht18 => ?_) | refine CW.condND rfl (fun ht18 => ?_) (fun ht18 => ?_) | refine CW.condN rfl (fun ht18 => ?_) (fun ht18 => ?_) | refine CW.cond rfl (fun ht18 => ?_) (fun ht18 => ?_)
  · -- then
    refine CW.seq fun K19 hK19 => ?_
    refine CW.region ?_   -- region 12
    refine WL.val (Y.move rfl) (by decide) ?_   -- t64 := move t6
    refine WL.val (Y.assign rfl) (by decide) ?_   -- t4 := assign t64
    refine WL.nil ?_
    refine hK19 _ _ ?_; try clear hK19 K19
    refine CW.ret ⟨_, rfl, ?_⟩
    have hbn : best = none := bestI_neg.1 (by assumption)
    have hi : i = l.length := by omega
    obtain ⟨k, rfl⟩ : ∃ k, fu = k + 1 := ⟨fu - 1, by omega⟩
    exact ⟨by rw [hor, orderD_none (by rw [hnl, ← hi, ← hbest, hbn])]; exact hO, fun k hk => by have := hfu k hk; omega, hE⟩
  -- else
  refine CW.skip ?_
  refine hK16 _ _ ?_; try clear hK16 K16
  refine CW.seq fun K20 hK20 => ?_
  obtain ⟨b0, rfl⟩ : ∃ b0, best = some b0 := by
    cases best with
    | none => exact absurd (show bestI none < 0 by decide) (by assumption)
    | some b0 => exact ⟨b0, rfl⟩
  have hi : i = l.length := by omega
  rw [hi] at hbest
  have hb0 := bestD_some hbest.symm
  obtain ⟨y0, hy0⟩ : ∃ y0, l[b0]? = some y0 := ⟨_, List.getElem?_eq_getElem (by omega)⟩
  obtain ⟨⟨id0, ps0⟩, A0, c0⟩ := y0
  obtain ⟨a, rfl, hma⟩ := hK0.nds.sl.at hy0
  have hid0 : idAt (ndsL l) b0 = id0 := by simp [idAt, hy0]
  have hcb0 : C[b0]? = some false := by
    obtain ⟨cc, hcc⟩ : ∃ cc, C[b0]? = some cc := ⟨_, List.getElem?_eq_getElem (by omega)⟩
    have := hb0.2.2
    cases cc <;> simp_all
  dsimp only [bestI]
  refine CW.region ?_   -- region 13
  refine WL.val (Y.load1 Try.underlying58 rfl hB5.mem.cell0 rfl) (by decide) ?_   -- t65 := load 58 t5
  refine WL.val (Y.move rfl) (by decide) ?_   -- t66 := move t7
  refine WL.val (Y.indexAddrN Try.underlying58 rfl rfl sz0_bool (by omega)) (by decide) ?_   -- t67 := indexAddr 58 t65 t66
  refine WL.storeB rfl rfl rfl sz_bool hC hcb0 (fun w11 hc11 hB11_ => ?_)   -- _ := store 4 t67 c(true)
  have hz11 := hc11.size; have hE := hE.step hc11 (fun k h => by omega); have hK := hK.chg hc11 (fun h => by omega) (fun h => by omega) (fun h => by omega) (fun k h => by omega); have hB2 := hB2.chg hc11 (fun h => by omega); have hB5 := hB5.chg hc11 (fun h => by omega)
  have hC := hB11_
  have hO := hO.chg hc11 (fun k hk h => by have := hfu k hk; omega)
  refine WL.nil ?_
  refine hK20 _ _ ?_; try clear hK20 K20
  refine CW.region ?_   -- region 14
  refine WL.val (Y.move rfl) (by decide) ?_   -- t68 := move t6
  refine WL.val (Y.load1 Try.underlying55 rfl hB2.mem.cell0 rfl) (by decide) ?_   -- t69 := load 55 t2
  refine WL.val (Y.nilCheck rfl) (by decide) ?_   -- t70 := nilCheck t69
  refine WL.val (Y.fieldAddr fo_graphlook0 rfl) (by decide) ?_   -- t71 := fieldAddr 61 t70 0
  refine WL.val (Y.load1 Try.underlying22 rfl hK.blk.mem.graphlook0 rfl) (by decide) ?_   -- t72 := load 22 t71
  refine WL.val (Y.move rfl) (by decide) ?_   -- t73 := move t7
  refine WL.val (Y.indexAddrN Try.underlying22 rfl rfl sz0_apiNode (by omega)) (by decide) ?_   -- t74 := indexAddr 22 t72 t73
  refine WL.val (Y.fieldAddr fo_apiNode0 rfl) (by decide) ?_   -- t75 := fieldAddr 48 t74 0
  refine WL.val (Y.load Try.underlying45 rfl (hma.ext hK.old).node0 (sz_apiDigest _) rfl) (by decide) ?_   -- t76 := load 45 t75
  refine WL.st (St.buildSlice rfl (bs1_dig _)) (by decide) fun v77 w12 hR12 => ?_   -- t77 := buildSlice 23 1 [(0,t76)]
  obtain ⟨g77, rfl, hg77, hB77, hx12⟩ := hR12
  have hz12 := hx12.size
  have hE := hE.thenExt hx12
  have hB2 := hB2.ext hx12
  have hB5 := hB5.ext hx12
  have hC := hC.ext hx12
  refine WL.st (St.append Try.underlying23 Try.underlying23 ai_dig rfl rfl (hO.ext hx12) (Src.one hB77 (digC_length _)) one_digC (by rw [flat_length digC_length]; omega)) (by decide) fun v78 w13 hR13 => ?_   -- t78 := call append(t68, t77) : 23,23
  obtain ⟨hO13, hc13, hf13⟩ := hR13
  have hz13 := hc13.size
  have hE := hE.step hc13 (fun k h => by have := hfu k h; omega)
  have hf13 : ∀ k, v78.ownBlock = some k → w3.heap.size ≤ k := by
    rcases hf13 with h | h
    · intro k hk; rw [h] at hk; exact hfu k hk
    · intro k hk; have := h k hk; omega
  have hB2 := hB2.chg hc13 (fun h => by have := hfu _ h; omega)
  have hB5 := hB5.chg hc13 (fun h => by have := hfu _ h; omega)
  have hC := hC.chg hc13 (fun h => by have := hfu _ h; omega)
  refine WL.val (Y.assign rfl) (by decide) ?_   -- t6 := assign t78
  refine WL.nil ?_
  have hcs := count_set hcb0
  obtain ⟨k, rfl⟩ : ∃ k, fu = k + 1 := ⟨fu - 1, by omega⟩
  refine ⟨(k, C.set b0 true, v78, out ++ [id0]), by show k < k + 1; omega, (by repeat (first | exact Fr.le.nil | refine Fr.le.cons rfl ?_)), hB2, hB5, hC, by simp [hCl], by simpa [flatD] using hO13, hf13, by show (out ++ [id0]).length + (C.set b0 true).count false = _; rw [List.length_append, List.length_singleton]; omega, by show (C.set b0 true).count false < k; omega, ?_, hE, by omega⟩
  rw [hor, orderD_some (by rw [hnl]; exact hbest.symm), hid0]
end Go.Proofs.Ytecolkngbcgmcaa
