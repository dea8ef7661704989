/- The heads of marked nodes, walked. No condition. -/
import Derived.Test.YtecolkngbcgmcaaGh
import Derived.Test.YtecolkngbcgmcaaM2
set_option linter.unusedSimpArgs false
set_option linter.unusedVariables false
namespace Go.Pl
open Go.Fw
/-- The heads, from the last one down. -/
def headsD (l : List Nd) (In : List Bool) : Nat → List Bool → List Dig → List Dig
  | 0, _, out => out
  | i + 1, U, out => match l[i]? with
    | some n => headsD l In i (if In[i]? = some true ∨ U[i]? = some true then setAll l U n.ps else U) (if In[i]? = some true ∧ ¬ U[i]? = some true then out ++ [n.id] else out)
    | none => headsD l In i U out
def headsL (l : List Nd) (In : List Bool) : List Dig := sortedD (headsD l In l.length (List.replicate l.length false) [])
theorem headsD_at {l : List Nd} {In U : List Bool} {out : List Dig} {i : Nat} {n : Nd} (h : l[i]? = some n) : headsD l In (i + 1) U out = headsD l In i (if In[i]? = some true ∨ U[i]? = some true then setAll l U n.ps else U) (if In[i]? = some true ∧ ¬ U[i]? = some true then out ++ [n.id] else out) := by
  rw [headsD, h]
end Go.Pl
namespace Go.Proofs.Ytecolkngbcgmcaa
open Go.RowKit Go.Fw Go.Pl Go.Sort

set_option maxRecDepth 100000 in
set_option maxHeartbeats 2000000 in
theorem gheads_any (wb w : World) (gk r sb b : Nat) (u : Value) (l : List NdV) (S0 In : List Bool) (hK : LookAt wb w gk r sb u l S0) (hIn : Blk w b TBo (boolC In)) (hil : In.length = l.length) : Calls Try.prog 36 #[.pointer (some ⟨gk, 0, none⟩), .slice (some ⟨b, 0, none⟩) l.length l.length] w (Ret fun v w' => Own w' TDg 32 v (flatD (headsL (ndsL l) In)) ∧ (∀ k, v.ownBlock = some k → w.heap.size ≤ k) ∧ Ext w w') := by
  have hK0 := hK
  have hIn0 := hIn
  obtain ⟨A, c, rfl, hmc, hcm⟩ := hK.nds.sl.lens
  unfold maxLen at hcm
  have hln := ok_len hK.ok
  have hnl : (ndsL l).length = l.length := by simp
  have hltK := hK.lt
  have hzK := hK.old.size
  obtain ⟨bi, hbi, hbz, hbs, hbb⟩ := info_boolT
  refine calls_of_CW 83 [4] [(0, .pointer (some ⟨gk, 0, none⟩)), (1, .slice (some ⟨b, 0, none⟩) l.length l.length)] Try.func36 rfl rfl rfl (by simp) args2 ?_
  have hE : Ext w w := Chg.refl
  refine CW.seq fun K1 hK1 => ?_
  refine CW.region ?_   -- region 0
  refine WL.val (Y.assign rfl) (by decide) ?_   -- t4 := assign c(nilslice)
  refine WL.nil ?_
  refine hK1 _ _ ?_; try clear hK1 K1
  refine CW.seq fun K2 hK2 => ?_
  refine CW.region ?_   -- region 1
  refine WL.val (Y.move rfl) (by decide) ?_   -- t10 := move t0
  refine WL.val (Y.nilCheck rfl) (by decide) ?_   -- t11 := nilCheck t10
  refine WL.val (Y.fieldAddr fo_graphlook0 rfl) (by decide) ?_   -- t12 := fieldAddr 61 t11 0
  refine WL.val (Y.load1 Try.underlying22 rfl hK.blk.mem.graphlook0 rfl) (by decide) ?_   -- t13 := load 22 t12
  refine WL.val (Y.len_slice Try.underlying22 rfl) (by decide) ?_   -- t14 := call len(t13) : 22
  refine WL.st (St.makeB Try.underlying58 hbi hbz hbs hbb rfl rfl (by omega)) (by decide) fun v15 w1 hR1 => ?_   -- t15 := makeSlice 58 t14 t14
  obtain ⟨ub, rfl, hub, hU, hx1⟩ := hR1
  have hz1 := hx1.size
  have hE := hE.thenExt hx1
  have hK := hK.ext hx1
  have hltu := hU.lt
  refine WL.val (Y.assign rfl) (by decide) ?_   -- t5 := assign t15
  refine WL.nil ?_
  refine hK2 _ _ ?_; try clear hK2 K2
  refine CW.seq fun K3 hK3 => ?_
  refine CW.region ?_   -- region 2
  refine WL.val (Y.assign rfl) (by decide) ?_   -- t6 := assign c(nilslice)
  refine WL.nil ?_
  refine hK3 _ _ ?_; try clear hK3 K3
  refine CW.seq fun K4 hK4 => ?_
  refine CW.seq fun K5 hK5 => ?_
  refine CW.region ?_   -- region 3
  refine WL.val (Y.move rfl) (by decide) ?_   -- t16 := move t0
  refine WL.val (Y.nilCheck rfl) (by decide) ?_   -- t17 := nilCheck t16
  refine WL.val (Y.fieldAddr fo_graphlook0 rfl) (by decide) ?_   -- t18 := fieldAddr 61 t17 0
  refine WL.val (Y.load1 Try.underlying22 rfl hK.blk.mem.graphlook0 rfl) (by decide) ?_   -- t19 := load 22 t18
  refine WL.val (Y.len_slice Try.underlying22 rfl) (by decide) ?_   -- t20 := call len(t19) : 22
  refine WL.val (Y.sub rfl rfl ⟨by omega, by omega⟩) (by decide) ?_   -- t21 := binOp sub 3 t20 c(1:i64) 3
  refine WL.val (Y.assign rfl) (by decide) ?_   -- t7 := assign t21
  refine WL.nil ?_
  refine hK5 _ _ ?_; try clear hK5 K5
  refine CW.block ?_   -- block 0
  refine CW.loop (X := Nat × List Bool × Value × List Dig) (fun x => [(0, .pointer (some ⟨gk, 0, none⟩)), (1, .slice (some ⟨b, 0, none⟩) l.length l.length), (5, .slice (some ⟨ub, 0, none⟩) l.length l.length), (6, x.2.2.1), (7, .int .i64 ((x.1 : Int) - 1))]) (fun x w0 => x.1 ≤ l.length ∧ Blk w0 ub TBo (boolC x.2.1) ∧ x.2.1.length = l.length ∧ Own w0 TDg 32 x.2.2.1 (flatD x.2.2.2) ∧ (∀ k, x.2.2.1.ownBlock = some k → w1.heap.size ≤ k) ∧ x.2.2.2.length ≤ l.length - x.1 ∧ headsD (ndsL l) In l.length (List.replicate l.length false) [] = headsD (ndsL l) In x.1 x.2.1 x.2.2.2 ∧ Ext w w0 ∧ w1.heap.size ≤ w0.heap.size) (fun x => x.1) (l.length, List.replicate l.length false, .slice none 0 0, []) (by repeat (first | exact Fr.le.nil | refine Fr.le.cons rfl ?_)) ⟨Nat.le_refl _, hU, by simp, Own.nil, (fun k h => by simp [Value.ownBlock] at h), Nat.zero_le _, rfl, hE, Nat.le_refl _⟩ ?_
  intro x w2 hl2
  clear hE hK hU
  obtain ⟨k, U, v, out⟩ := x
  dsimp only at hl2 ⊢
  obtain ⟨hkl, hU, hUl, hO, hfu, hol, hh, hE, hz2⟩ := hl2
  have hK := hK0.ext hE
  have hIn := hIn0.ext hE
  obtain ⟨B, mb, cb, rfl⟩ := hO.lens
  have hlo := hO.lt
  refine CW.seq fun K6 hK6 => ?_
  refine CW.seq fun K7 hK7 => ?_
  refine CW.region ?_   -- region 4
  refine WL.val (Y.move rfl) (by decide) ?_   -- t22 := move t7
  refine WL.val (Y.geq rfl rfl) (by decide) ?_   -- t23 := binOp geq 3 t22 c(0:i64) 3
  refine WL.nil ?_
  refine hK7 _ _ ?_; try clear hK7 K7
  first | refine CW.condD rfl (fun ht8 => ?_) (fun ht8 => ?_) | refine CW.condND rfl (fun ht8 => ?_) (fun ht8 => ?_) | refine CW.condN rfl (fun ht8 => ?_) (fun ht8 => ?_) | refine CW.cond rfl (fun ht8 => ?_) (fun ht8 => ?_)
  · -- then
    refine CW.skip ?_
    refine hK6 _ _ ?_; try clear hK6 K6
    obtain ⟨i, rfl⟩ : ∃ i, k = i + 1 := ⟨k - 1, by omega⟩
    rw [show (((i + 1 : Nat) : Int) - 1) = (i : Int) by omega]
    obtain ⟨y, hy⟩ : ∃ y, l[i]? = some y := ⟨_, List.getElem?_eq_getElem (by omega)⟩
    obtain ⟨⟨id, ps⟩, Ay, cy⟩ := y
    have hyn : (ndsL l)[i]? = some ⟨id, ps⟩ := by simp [hy]
    obtain ⟨ci, hci⟩ : ∃ c, In[i]? = some c := ⟨_, List.getElem?_eq_getElem (by omega)⟩
    obtain ⟨cu, hcu⟩ : ∃ c, U[i]? = some c := ⟨_, List.getElem?_eq_getElem (by omega)⟩
    obtain ⟨a, rfl, hma⟩ := hK0.nds.sl.at hy
    have hps0 := hK0.nds.ps _ (List.mem_of_getElem? hy)
    dsimp only [NdV.pv] at hps0
    have hps1 := hps0
    obtain ⟨_, _, _, he_, _, hcy, hcy2, _⟩ := hps1
    cases he_
    unfold maxLen at hcy2
    refine CW.seq_to (X := Value) (fun u => [(0, .pointer (some ⟨gk, 0, none⟩)), (1, .slice (some ⟨b, 0, none⟩) l.length l.length), (5, .slice (some ⟨ub, 0, none⟩) l.length l.length), (6, u), (7, .int .i64 (i : Int))]) (fun u w0 => Blk w0 ub TBo (boolC (if ci = true ∨ cu = true then setAll (ndsL l) U ps else U)) ∧ Own w0 TDg 32 u (flatD (if ci = true ∧ ¬ cu = true then out ++ [id] else out)) ∧ (∀ k, u.ownBlock = some k → w1.heap.size ≤ k) ∧ Ext w w0 ∧ w1.heap.size ≤ w0.heap.size) ?_ ?_
    · skip
      refine CW.block ?_   -- block 1
      refine CW.seq_to (X := Value) (fun u => [(0, .pointer (some ⟨gk, 0, none⟩)), (1, .slice (some ⟨b, 0, none⟩) l.length l.length), (5, .slice (some ⟨ub, 0, none⟩) l.length l.length), (6, u), (7, .int .i64 (i : Int))]) (fun u w0 => Own w0 TDg 32 u (flatD (if ci = true ∧ ¬ cu = true then out ++ [id] else out)) ∧ (∀ k, u.ownBlock = some k → w1.heap.size ≤ k) ∧ Ext w w0 ∧ Blk w0 ub TBo (boolC U) ∧ w1.heap.size ≤ w0.heap.size) ?_ ?_
      · skip
        refine CW.seq_test 36 (ci = true ∧ ¬ cu = true) ?_ ?_
        · refine CW.region ?_
          refine WL.val (Y.move rfl) (by decide) ?_   -- t26 := move t1
          refine WL.val (Y.move rfl) (by decide) ?_   -- t27 := move t7
          refine WL.val (Y.indexAddrN Try.underlying58 rfl rfl sz0_bool (by omega)) (by decide) ?_   -- t28 := indexAddr 58 t26 t27
          refine WL.val (Y.load1 Try.underlying4 rfl (hIn.bcell hci) rfl) (by decide) ?_   -- t29 := load 4 t28
          refine WL.val (Y.move rfl) (by decide) ?_   -- t30 := move t29
          first | refine WL.casesD (d := 30) rfl (fun hg30 => ?_) (fun hg30 => ?_) | refine WL.casesND (d := 30) rfl (fun hg30 => ?_) (fun hg30 => ?_) | refine WL.cases (d := 30) rfl (fun hg30 => ?_) (fun hg30 => ?_)
          · -- t30 = T
            refine WL.gval rfl rfl (Y.move rfl) (by decide) ?_   -- t31 := move t5 [if 4=true]
            refine WL.gval rfl rfl (Y.move rfl) (by decide) ?_   -- t32 := move t7 [if 4=true]
            refine WL.gval rfl rfl (Y.indexAddrN Try.underlying58 rfl rfl sz0_bool (by omega)) (by decide) ?_   -- t33 := indexAddr 58 t31 t32 [if 4=true]
            refine WL.gval rfl rfl (Y.load1 Try.underlying4 rfl (hU.bcell hcu) rfl) (by decide) ?_   -- t34 := load 4 t33 [if 4=true]
            refine WL.gval rfl rfl (Y.not rfl) (by decide) ?_   -- t35 := unOp not 4 t34 [if 4=true]
            refine WL.val (Y.pick rfl rfl) (by decide) ?_   -- t36 := pick t30 t35 c(false)
            refine WL.nil ⟨⟨_, rfl, ?_⟩, rfl, (by repeat (first | exact Fr.le.refl | refine Fr.le.push rfl ?_))⟩
            first | (simp only [*, Int.natCast_inj, Bool.not_eq_true', decide_eq_false_iff_not, decide_eq_true_eq, not_true_eq_false, not_false_eq_true, true_and, false_and, and_true, and_false, false_or, or_false, true_or, or_true, iff_true, true_iff, iff_false, false_iff]; done) | (simp_all; done) | (refine congrArg Value.bool (Bool.eq_iff_iff.2 ?_); simp_all; done) | (simp_all; omega)
          · -- t30 = F
            refine WL.goff rfl rfl (by decide) ?_   -- t31 := move t5 [if 4=true]
            refine WL.goff rfl rfl (by decide) ?_   -- t32 := move t7 [if 4=true]
            refine WL.goff rfl rfl (by decide) ?_   -- t33 := indexAddr 58 t31 t32 [if 4=true]
            refine WL.goff rfl rfl (by decide) ?_   -- t34 := load 4 t33 [if 4=true]
            refine WL.goff rfl rfl (by decide) ?_   -- t35 := unOp not 4 t34 [if 4=true]
            refine WL.val (Y.pick rfl rfl) (by decide) ?_   -- t36 := pick t30 t35 c(false)
            refine WL.nil ⟨⟨_, rfl, ?_⟩, rfl, (by repeat (first | exact Fr.le.refl | refine Fr.le.push rfl ?_))⟩
            first | (simp only [*, Int.natCast_inj, Bool.not_eq_true', decide_eq_false_iff_not, decide_eq_true_eq, not_true_eq_false, not_false_eq_true, true_and, false_and, and_true, and_false, false_or, or_false, true_or, or_true, iff_true, true_iff, iff_false, false_iff]; done) | (simp_all; done) | (refine congrArg Value.bool (Bool.eq_iff_iff.2 ?_); simp_all; done) | (simp_all; omega)
        first | refine CW.condD rfl (fun ht11 => ?_) (fun ht11 => ?_) | refine CW.condND rfl (fun ht11 => ?_) (fun ht11 => ?_) | refine CW.condN rfl (fun ht11 => ?_) (fun ht11 => ?_) | refine CW.cond rfl (fun ht11 => ?_) (fun ht11 => ?_)
        · -- then
          refine CW.region ?_   -- region 7
          refine WL.val (Y.move rfl) (by decide) ?_   -- t37 := move t6
          refine WL.val (Y.move rfl) (by decide) ?_   -- t38 := move t0
          refine WL.val (Y.nilCheck rfl) (by decide) ?_   -- t39 := nilCheck t38
          refine WL.val (Y.fieldAddr fo_graphlook0 rfl) (by decide) ?_   -- t40 := fieldAddr 61 t39 0
          refine WL.val (Y.load1 Try.underlying22 rfl hK.blk.mem.graphlook0 rfl) (by decide) ?_   -- t41 := load 22 t40
          refine WL.val (Y.move rfl) (by decide) ?_   -- t42 := move t7
          refine WL.val (Y.indexAddrN Try.underlying22 rfl rfl sz0_apiNode (by omega)) (by decide) ?_   -- t43 := indexAddr 22 t41 t42
          refine WL.val (Y.fieldAddr fo_apiNode0 rfl) (by decide) ?_   -- t44 := fieldAddr 48 t43 0
          refine WL.val (Y.load Try.underlying45 rfl (hma.ext hK.old).node0 (sz_apiDigest _) rfl) (by decide) ?_   -- t45 := load 45 t44
          refine WL.st (St.buildSlice rfl (bs1_dig _)) (by decide) fun v46 w3 hR3 => ?_   -- t46 := buildSlice 23 1 [(0,t45)]
          obtain ⟨g46, rfl, hg46, hB46, hx3⟩ := hR3
          have hz3 := hx3.size
          have hE := hE.thenExt hx3
          refine WL.st (St.append Try.underlying23 Try.underlying23 ai_dig rfl rfl (hO.ext hx3) (Src.one hB46 (digC_length _)) one_digC (by rw [flat_length digC_length]; omega)) (by decide) fun v47 w4 hR4 => ?_   -- t47 := call append(t37, t46) : 23,23
          obtain ⟨hO4, hc4, hf4⟩ := hR4
          have hz4 := hc4.size
          have hE := hE.step hc4 (fun k h => by have := hfu k h; omega)
          have hf4 : ∀ k, v47.ownBlock = some k → w1.heap.size ≤ k := by
            rcases hf4 with h | h
            · intro k hk; rw [h] at hk; exact hfu k hk
            · intro k hk; have := h k hk; omega
          have hU := (hU.ext hx3).chg hc4 (fun h => by have := hfu _ h; omega)
          refine WL.val (Y.assign rfl) (by decide) ?_   -- t6 := assign t47
          refine WL.nil ?_
          exact ⟨v47, (by repeat (first | exact Fr.le.nil | refine Fr.le.cons rfl ?_)), by rw [if_pos (by assumption)]; simpa [flatD] using hO4, hf4, hE, hU, by omega⟩
        -- else
        refine CW.skip ?_
        exact ⟨.slice B mb cb, (by repeat (first | exact Fr.le.nil | refine Fr.le.cons rfl ?_)), by rw [if_neg (by assumption)]; exact hO, hfu, hE, hU, by omega⟩
      rintro u w5 hj5
      clear hE hK hU hIn hO hfu
      obtain ⟨hO, hfu, hE, hU, hz5⟩ := hj5
      have hK := hK0.ext hE
      have hIn := hIn0.ext hE
      refine CW.seq_test 57 (ci = true ∨ cu = true) ?_ ?_
      · refine CW.region ?_
        refine WL.val (Y.move rfl) (by decide) ?_   -- t48 := move t1
        refine WL.val (Y.move rfl) (by decide) ?_   -- t49 := move t7
        refine WL.val (Y.indexAddrN Try.underlying58 rfl rfl sz0_bool (by omega)) (by decide) ?_   -- t50 := indexAddr 58 t48 t49
        refine WL.val (Y.load1 Try.underlying4 rfl (hIn.bcell hci) rfl) (by decide) ?_   -- t51 := load 4 t50
        refine WL.val (Y.move rfl) (by decide) ?_   -- t52 := move t51
        first | refine WL.casesD (d := 52) rfl (fun hg52 => ?_) (fun hg52 => ?_) | refine WL.casesND (d := 52) rfl (fun hg52 => ?_) (fun hg52 => ?_) | refine WL.cases (d := 52) rfl (fun hg52 => ?_) (fun hg52 => ?_)
        · -- t52 = T
          refine WL.goff rfl rfl (by decide) ?_   -- t53 := move t5 [if 4=false]
          refine WL.goff rfl rfl (by decide) ?_   -- t54 := move t7 [if 4=false]
          refine WL.goff rfl rfl (by decide) ?_   -- t55 := indexAddr 58 t53 t54 [if 4=false]
          refine WL.goff rfl rfl (by decide) ?_   -- t56 := load 4 t55 [if 4=false]
          refine WL.val (Y.pick rfl rfl) (by decide) ?_   -- t57 := pick t52 c(true) t56
          refine WL.nil ⟨⟨_, rfl, ?_⟩, rfl, (by repeat (first | exact Fr.le.refl | refine Fr.le.push rfl ?_))⟩
          first | (simp only [*, Int.natCast_inj, Bool.not_eq_true', decide_eq_false_iff_not, decide_eq_true_eq, not_true_eq_false, not_false_eq_true, true_and, false_and, and_true, and_false, false_or, or_false, true_or, or_true, iff_true, true_iff, iff_false, false_iff]; done) | (simp_all; done) | (refine congrArg Value.bool (Bool.eq_iff_iff.2 ?_); simp_all; done) | (simp_all; omega)
        · -- t52 = F
          refine WL.gval rfl rfl (Y.move rfl) (by decide) ?_   -- t53 := move t5 [if 4=false]
          refine WL.gval rfl rfl (Y.move rfl) (by decide) ?_   -- t54 := move t7 [if 4=false]
          refine WL.gval rfl rfl (Y.indexAddrN Try.underlying58 rfl rfl sz0_bool (by omega)) (by decide) ?_   -- t55 := indexAddr 58 t53 t54 [if 4=false]
          refine WL.gval rfl rfl (Y.load1 Try.underlying4 rfl (hU.bcell hcu) rfl) (by decide) ?_   -- t56 := load 4 t55 [if 4=false]
          refine WL.val (Y.pick rfl rfl) (by decide) ?_   -- t57 := pick t52 c(true) t56
          refine WL.nil ⟨⟨_, rfl, ?_⟩, rfl, (by repeat (first | exact Fr.le.refl | refine Fr.le.push rfl ?_))⟩
          first | (simp only [*, Int.natCast_inj, Bool.not_eq_true', decide_eq_false_iff_not, decide_eq_true_eq, not_true_eq_false, not_false_eq_true, true_and, false_and, and_true, and_false, false_or, or_false, true_or, or_true, iff_true, true_iff, iff_false, false_iff]; done) | (simp_all; done) | (refine congrArg Value.bool (Bool.eq_iff_iff.2 ?_); simp_all; done) | (simp_all; omega)
      first | refine CW.condD rfl (fun ht12 => ?_) (fun ht12 => ?_) | refine CW.condND rfl (fun ht12 => ?_) (fun ht12 => ?_) | refine CW.condN rfl (fun ht12 => ?_) (fun ht12 => ?_) | refine CW.cond rfl (fun ht12 => ?_) (fun ht12 => ?_)
      · -- then
        refine CW.seq fun K13 hK13 => ?_
        refine CW.region ?_   -- region 9
        refine WL.val (Y.move rfl) (by decide) ?_   -- t58 := move t0
        refine WL.val (Y.nilCheck rfl) (by decide) ?_   -- t59 := nilCheck t58
        refine WL.val (Y.fieldAddr fo_graphlook0 rfl) (by decide) ?_   -- t60 := fieldAddr 61 t59 0
        refine WL.val (Y.load1 Try.underlying22 rfl hK.blk.mem.graphlook0 rfl) (by decide) ?_   -- t61 := load 22 t60
        refine WL.val (Y.move rfl) (by decide) ?_   -- t62 := move t7
        refine WL.val (Y.indexAddrN Try.underlying22 rfl rfl sz0_apiNode (by omega)) (by decide) ?_   -- t63 := indexAddr 22 t61 t62
        refine WL.val (Y.fieldAddr fo_apiNode1 rfl) (by decide) ?_   -- t64 := fieldAddr 48 t63 1
        refine WL.val (Y.load1 Try.underlying23 rfl (hma.ext hK.old).node1 rfl) (by decide) ?_   -- t65 := load 23 t64
        refine WL.val (Y.len_slice Try.underlying23 rfl) (by decide) ?_   -- t66 := call len(t65) : 23
        refine WL.val (Y.move rfl) (by decide) ?_   -- t67 := move c(0:i64)
        refine WL.nil ?_
        refine hK13 _ _ ?_; try clear hK13 K13
        refine CW.block ?_   -- block 2
        refine CW.loop (X := Nat) (fun x => [(0, .pointer (some ⟨gk, 0, none⟩)), (1, .slice (some ⟨b, 0, none⟩) l.length l.length), (5, .slice (some ⟨ub, 0, none⟩) l.length l.length), (6, u), (7, .int .i64 (i : Int)), (65, .slice Ay ps.length cy), (66, .int .i64 (ps.length : Int)), (67, .int .i64 (x : Int))]) (fun x w0 => x ≤ ps.length ∧ Blk w0 ub TBo (boolC (setAll (ndsL l) U (ps.take x))) ∧ Own w0 TDg 32 u (flatD (if ci = true ∧ ¬ cu = true then out ++ [id] else out)) ∧ Ext w w0 ∧ w5.heap.size ≤ w0.heap.size) (fun x => ps.length - x) 0 (by repeat (first | exact Fr.le.nil | refine Fr.le.cons rfl ?_)) ⟨Nat.zero_le _, by simpa [setAll] using hU, hO, hE, Nat.le_refl _⟩ ?_
        intro x w6 hl6
        clear hE hK hU hO
        obtain ⟨hxp, hU, hO, hE, hz6⟩ := hl6
        have hK := hK0.ext hE
        refine CW.seq fun K14 hK14 => ?_
        refine CW.region ?_   -- region 10
        refine WL.val (Y.lss rfl rfl) (by decide) ?_   -- t68 := binOp lss 3 t67 t66 3
        refine WL.nil ?_
        refine hK14 _ _ ?_; try clear hK14 K14
        refine CW.seq fun K15 hK15 => ?_
        first | refine CW.condD rfl (fun ht16 => ?_) (fun ht16 => ?_) | refine CW.condND rfl (fun ht16 => ?_) (fun ht16 => ?_) | refine CW.condN rfl (fun ht16 => ?_) (fun ht16 => ?_) | refine CW.cond rfl (fun ht16 => ?_) (fun ht16 => ?_)
        · -- then
          refine CW.skip ?_
          refine hK15 _ _ ?_; try clear hK15 K15
          refine CW.seq fun K17 hK17 => ?_
          refine CW.block ?_   -- block 3
          refine CW.seq fun K18 hK18 => ?_
          obtain ⟨d, hd⟩ : ∃ d, ps[x]? = some d := ⟨_, List.getElem?_eq_getElem (by omega)⟩
          obtain ⟨a2, rfl, hma2⟩ := hps0.at hd
          have hdi := mem_idsTake (ok_par hK0.ok hyn (List.mem_of_getElem? hd))
          have hix := ixN_lt hdi
          rw [hnl] at hix
          obtain ⟨jf, hf⟩ := placed_ix hdi
          obtain ⟨cb2, hcb2⟩ : ∃ cb, (setAll (ndsL l) U (ps.take x))[ixN (ndsL l) d]? = some cb := ⟨_, List.getElem?_eq_getElem (by rw [setAll_length]; omega)⟩
          refine CW.region ?_   -- region 11
          refine WL.val (Y.indexAddrN Try.underlying23 rfl rfl sz0_apiDigest (by omega)) (by decide) ?_   -- t69 := indexAddr 23 t65 t67
          refine WL.val (Y.load Try.underlying45 rfl (hma2.ext hK.old) (sz_apiDigest _) rfl) (by decide) ?_   -- t70 := load 45 t69
          refine as_apiDigest rfl (by simp) (by decide) fun g9 w7 hx7 hg9 hB9 => ?_   -- alloc 45; store 45 t9 t70
          have hlt9 := hB9.lt; have hz7 := hx7.size
          have hM9 := hB9.mem; have hz7 := hx7.size; have hE := hE.thenExt hx7; have hK := hK.ext hx7
          refine WL.nil ?_
          refine hK18 _ _ ?_; try clear hK18 K18
          refine CW.head 8 (by kernel_rfl) (by kernel_rfl) fun w8 hx8 => ?_   -- region 12
          skip; have hz8 := hx8.size; have hE := hE.thenExt hx8; have hK := hK.ext hx8; have hB9 := hB9.ext hx8
          refine HL.val (Y.move rfl) (by decide) ?_   -- t71 := move t5
          refine HL.val (Y.move rfl) (by decide) ?_   -- t72 := move t0
          refine HL.val (Y.nilCheck rfl) (by decide) ?_   -- t73 := nilCheck t72
          refine HL.val (Y.fieldAddr fo_graphlook1 rfl) (by decide) ?_   -- t74 := fieldAddr 61 t73 1
          refine HL.val (Y.load1 Try.underlying59 rfl hK.blk.mem.graphlook1 rfl) (by decide) ?_   -- t75 := load 59 t74
          refine HL.val (Y.load Try.underlying45 rfl hB9.mem (sz_apiDigest _) rfl) (by decide) ?_   -- t76 := load 45 t9
          refine HL.val (Y.lookupAt keyDig (fun _ => rfl) Try.underlying59 rfl rfl hK.map hf rfl) (by decide) ?_   -- t77 := lookup 59 t75 t76 false
          refine HL.val (Y.indexAddrN Try.underlying58 rfl rfl sz0_bool (by omega)) (by decide) ?_   -- t78 := indexAddr 58 t71 t77
          refine HL.nil ?_
          refine WL.storeB rfl rfl rfl sz_bool ((hU.ext hx7).ext hx8) hcb2 (fun w9 hc9 hB9_ => ?_)   -- _ := store 4 t78 c(true)
          have hz9 := hc9.size; have hE := hE.step hc9 (fun k h => by omega); have hK := hK.chg hc9 (fun h => by omega) (fun h => by omega) (fun h => by omega) (fun k h => by omega); have hB9 := hB9.chg hc9 (fun h => by omega)
          have hU := hB9_
          have hO := ((hO.ext hx7).ext hx8).chg hc9 (fun k hk h => by have := hfu k hk; omega)
          refine WL.nil ?_
          refine hK17 _ _ ?_; try clear hK17 K17
          refine CW.region ?_   -- region 13
          refine WL.val (Y.add rfl rfl ⟨by omega, by omega⟩) (by decide) ?_   -- t79 := binOp add 3 t67 c(1:i64) 3
          refine WL.val (Y.move rfl) (by decide) ?_   -- t67 := move t79
          refine WL.nil ?_
          refine ⟨x + 1, by show ps.length - (x + 1) < ps.length - x; omega, (by repeat (first | exact Fr.le.nil | refine Fr.le.cons rfl ?_)), by show x + 1 ≤ ps.length; omega, ?_, hO, hE, by omega⟩
          show Blk _ _ _ (boolC (setAll _ _ (ps.take (x + 1))))
          rw [take_succ hd, setAll_app]
          exact hU
        -- else
        refine CW.exit ?_   -- exit 2
        exact ⟨u, (by repeat (first | exact Fr.le.nil | refine Fr.le.cons rfl ?_)), by rw [if_pos (by assumption)]; rw [List.take_of_length_le (by omega)] at hU; exact hU, hO, hfu, hE, by omega⟩
      -- else
      refine CW.skip ?_
      exact ⟨u, (by repeat (first | exact Fr.le.nil | refine Fr.le.cons rfl ?_)), by rw [if_neg (by assumption)]; exact hU, hO, hfu, hE, by omega⟩
    rintro u w10 hj10
    clear hE hK hU hO hfu
    obtain ⟨hU, hO, hfu, hE, hz10⟩ := hj10
    refine CW.region ?_   -- region 5
    refine WL.val (Y.move rfl) (by decide) ?_   -- t24 := move t7
    refine WL.val (Y.sub rfl rfl ⟨by omega, by omega⟩) (by decide) ?_   -- t25 := binOp sub 3 t24 c(1:i64) 3
    refine WL.val (Y.assign rfl) (by decide) ?_   -- t7 := assign t25
    refine WL.nil ?_
    refine ⟨(i, (if ci = true ∨ cu = true then setAll (ndsL l) U ps else U), u, (if ci = true ∧ ¬ cu = true then out ++ [id] else out)), by show i < i + 1; omega, (by repeat (first | exact Fr.le.nil | refine Fr.le.cons rfl ?_)), by show i ≤ _; omega, hU, ?_, hO, hfu, ?_, ?_, hE, by omega⟩
    · show (ite _ _ _ : List Bool).length = _
      split <;> simp [setAll_length, hUl]
    · show (ite _ _ _ : List Dig).length ≤ l.length - i
      split <;> (try simp only [List.length_append, List.length_singleton]) <;> omega
    · show _ = headsD (ndsL l) In i _ _
      rw [hh, headsD_at hyn]
      simp only [hci, hcu, Option.some.injEq]
  -- else
  refine CW.exit ?_   -- exit 0
  refine hK4 _ _ ?_; try clear hK4 K4
  refine CW.seq fun K19 hK19 => ?_
  refine CW.region ?_   -- region 14
  refine WL.val (Y.move rfl) (by decide) ?_   -- t80 := move t6
  refine WL.call Try.func49 rfl rfl rfl (sort_gen cfO lt_cfO Try.func50 rfl rfl gorder_any _ _ _ _ _ hO (by omega)) (by simp) ?_; rintro v81 w11 hR11   -- t81 := call F49(t80, F50) : 23,77
  obtain ⟨rfl, hO11, hc11⟩ := hR11
  have hz11 := hc11.size
  have hE := hE.step hc11 (fun k h => by have := hfu k h; omega)
  refine WL.nil ?_
  refine hK19 _ _ ?_; try clear hK19 K19
  refine CW.seq fun K20 hK20 => ?_
  refine CW.region ?_   -- region 15
  refine WL.val (Y.move rfl) (by decide) ?_   -- t82 := move t6
  refine WL.val (Y.assign rfl) (by decide) ?_   -- t4 := assign t82
  refine WL.nil ?_
  refine hK20 _ _ ?_; try clear hK20 K20
  refine CW.ret ⟨_, rfl, ?_⟩
  refine ⟨?_, fun k hk => by have := hfu k hk; omega, hE⟩
  have hk0 : k = 0 := by omega
  subst hk0
  rw [headsL, hnl, hh]
  exact hO11
end Go.Proofs.Ytecolkngbcgmcaa
