/- Several texts as one: Gi, Gj, Gk, Gl, Gm. -/
import Derived.Test.YtecolkngbcgmcaaN1
import Derived.Test.YtecolkngbcgmcaaM2
set_option linter.unusedSimpArgs false
set_option linter.unusedVariables false
/- The heads of marked nodes, walked. No condition. -/
namespace Go.Pl
open Go.Fw
/-- The heads, from the last one down. -/
def headsD (l : List Nd) (In : List Bool) : Nat → List Bool → List Dig → List Dig
  | 0, _, out => out
  | i + 1, U, out => match l[i]? with
    | some n => headsD l In i (if In[i]? = some true ∨ U[i]? = some true then setAll l U n.ps else U) (if In[i]? = some true ∧ ¬ U[i]? = some true then out ++ [n.id] else out)
    | none => headsD l In i U out
def headsL (l : List Nd) (In : List Bool) : List Dig := sortedD (headsD l In l.length (List.replicate l.length false) [])
theorem headsD_at {l : List Nd} {In U : List Bool} {out : List Dig} {i : Nat} {n : Nd} (h : l[i]? = some n) : headsD l In (i + 1) U out = headsD l In i (if In[i]? = some true ∨ U[i]? = some true then setAll l U n.ps else U) (if In[i]? = some true ∧ ¬ U[i]? = some true then out ++ [n.id] else out) := by
  rw [headsD, h]
end Go.Pl
namespace Go.Proofs.Ytecolkngbcgmcaa
open Go.RowKit Go.Fw Go.Pl Go.Sort

set_option maxRecDepth 100000 in
set_option maxHeartbeats 2000000 in
theorem gheads_any (wb w : World) (gk r sb b : Nat) (u : Value) (l : List NdV) (S0 In : List Bool) (hK : LookAt wb w gk r sb u l S0) (hIn : Blk w b TBo (boolC In)) (hil : In.length = l.length) : Calls Try.prog 36 #[.pointer (some ⟨gk, 0, none⟩), .slice (some ⟨b, 0, none⟩) l.length l.length] w (Ret fun v w' => Own w' TDg 32 v (flatD (headsL (ndsL l) In)) ∧ (∀ k, v.ownBlock = some k → w.heap.size ≤ k) ∧ Ext w w') := by
  have hK0 := hK
  have hIn0 := hIn
  obtain ⟨A, c, rfl, hmc, hcm⟩ := hK.nds.sl.lens
  unfold maxLen at hcm
  have hln := ok_len hK.ok
  have hnl : (ndsL l).length = l.length := by simp
  have hltK := hK.lt
  have hzK := hK.old.size
  obtain ⟨bi, hbi, hbz, hbs, hbb⟩ := info_boolT
  refine calls_of_CW 83 [4] [(0, .pointer (some ⟨gk, 0, none⟩)), (1, .slice (some ⟨b, 0, none⟩) l.length l.length)] Try.func36 rfl rfl rfl (by simp) args2 ?_
  have hE : Ext w w := Chg.refl
  refine CW.seq fun K1 hK1 => ?_
  refine CW.region ?_   -- region 0
  refine WL.val (Y.assign rfl) (by decide) ?_   -- t4 := assign c(nilslice)
  refine WL.nil ?_
  refine hK1 _ _ ?_; try clear hK1 K1
  refine CW.seq fun K2 hK2 => ?_
  refine CW.region ?_   -- region 1
  refine WL.val (Y.move rfl) (by decide) ?_   -- t10 := move t0
  refine WL.val (Y.nilCheck rfl) (by decide) ?_   -- t11 := nilCheck t10
  refine WL.val (Y.fieldAddr fo_graphlook0 rfl) (by decide) ?_   -- t12 := fieldAddr 61 t11 0
  refine WL.val (Y.load1 Try.underlying22 rfl hK.blk.mem.graphlook0 rfl) (by decide) ?_   -- t13 := load 22 t12
  refine WL.val (Y.len_slice Try.underlying22 rfl) (by decide) ?_   -- t14 := call len(t13) : 22
  refine WL.st (St.makeB Try.underlying58 hbi hbz hbs hbb rfl rfl (by omega)) (by decide) fun v15 w1 hR1 => ?_   -- t15 := makeSlice 58 t14 t14
  obtain ⟨ub, rfl, hub, hU, hx1⟩ := hR1
  have hz1 := hx1.size
  have hE := hE.thenExt hx1
  have hK := hK.ext hx1
  have hltu := hU.lt
  refine WL.val (Y.assign rfl) (by decide) ?_   -- t5 := assign t15
  refine WL.nil ?_
  refine hK2 _ _ ?_; try clear hK2 K2
  refine CW.seq fun K3 hK3 => ?_
  refine CW.region ?_   -- region 2
  refine WL.val (Y.assign rfl) (by decide) ?_   -- t6 := assign c(nilslice)
  refine WL.nil ?_
  refine hK3 _ _ ?_; try clear hK3 K3
  refine CW.seq fun K4 hK4 => ?_
  refine CW.seq fun K5 hK5 => ?_
  refine CW.region ?_   -- region 3
  refine WL.val (Y.move rfl) (by decide) ?_   -- t16 := move t0
  refine WL.val (Y.nilCheck rfl) (by decide) ?_   -- t17 := nilCheck t16
  refine WL.val (Y.fieldAddr fo_graphlook0 rfl) (by decide) ?_   -- t18 := fieldAddr 61 t17 0
  refine WL.val (Y.load1 Try.underlying22 rfl hK.blk.mem.graphlook0 rfl) (by decide) ?_   -- t19 := load 22 t18
  refine WL.val (Y.len_slice Try.underlying22 rfl) (by decide) ?_   -- t20 := call len(t19) : 22
  refine WL.val (Y.sub rfl rfl ⟨by omega, by omega⟩) (by decide) ?_   -- t21 := binOp sub 3 t20 c(1:i64) 3
  refine WL.val (Y.assign rfl) (by decide) ?_   -- t7 := assign t21
  refine WL.nil ?_
  refine hK5 _ _ ?_; try clear hK5 K5
  refine CW.block ?_   -- block 0
  refine CW.loop (X := Nat × List Bool × Value × List Dig) (fun x => [(0, .pointer (some ⟨gk, 0, none⟩)), (1, .slice (some ⟨b, 0, none⟩) l.length l.length), (5, .slice (some ⟨ub, 0, none⟩) l.length l.length), (6, x.2.2.1), (7, .int .i64 ((x.1 : Int) - 1))]) (fun x w0 => x.1 ≤ l.length ∧ Blk w0 ub TBo (boolC x.2.1) ∧ x.2.1.length = l.length ∧ Own w0 TDg 32 x.2.2.1 (flatD x.2.2.2) ∧ (∀ k, x.2.2.1.ownBlock = some k → w1.heap.size ≤ k) ∧ x.2.2.2.length ≤ l.length - x.1 ∧ headsD (ndsL l) In l.length (List.replicate l.length false) [] = headsD (ndsL l) In x.1 x.2.1 x.2.2.2 ∧ Ext w w0 ∧ w1.heap.size ≤ w0.heap.size) (fun x => x.1) (l.length, List.replicate l.length false, .slice none 0 0, []) (by repeat (first | exact Fr.le.nil | refine Fr.le.cons rfl ?_)) ⟨Nat.le_refl _, hU, by simp, Own.nil, (fun k h => by simp [Value.ownBlock] at h), Nat.zero_le _, rfl, hE, Nat.le_refl _⟩ ?_
  intro x w2 hl2
  clear hE hK hU
  obtain ⟨k, U, v, out⟩ := x
  dsimp only at hl2 ⊢
  obtain ⟨hkl, hU, hUl, hO, hfu, hol, hh, hE, hz2⟩ := hl2
  have hK := hK0.ext hE
  have hIn := hIn0.ext hE
  obtain ⟨B, mb, cb, rfl⟩ := hO.lens
  have hlo := hO.lt
  refine CW.seq fun K6 hK6 => ?_
  refine CW.seq fun K7 hK7 => ?_
  refine CW.region ?_   -- region 4
  refine WL.val (Y.move rfl) (by decide) ?_   -- t22 := move t7
  refine WL.val (Y.geq rfl rfl) (by decide) ?_   -- t23 := binOp geq 3 t22 c(0:i64) 3
  refine WL.nil ?_
  refine hK7 _ _ ?_; try clear hK7 K7
  first | refine CW.condD rfl (fun ht8 => ?_) (fun ht8 => ?_) | refine CW.condND rfl (fun ht8 => ?_) (fun ht8 => ?_) | refine CW.condN rfl (fun ht8 => ?_) (fun ht8 => ?_) | refine CW.cond rfl (fun ht8 => ?_) (fun ht8 => ?_)
  · -- then
    refine CW.skip ?_
    refine hK6 _ _ ?_; try clear hK6 K6
    obtain ⟨i, rfl⟩ : ∃ i, k = i + 1 := ⟨k - 1, by omega⟩
    rw [show (((i + 1 : Nat) : Int) - 1) = (i : Int) by omega]
    obtain ⟨y, hy⟩ : ∃ y, l[i]? = some y := ⟨_, List.getElem?_eq_getElem (by omega)⟩
    obtain ⟨⟨id, ps⟩, Ay, cy⟩ := y
    have hyn : (ndsL l)[i]? = some ⟨id, ps⟩ := by simp [hy]
    obtain ⟨ci, hci⟩ : ∃ c, In[i]? = some c := ⟨_, List.getElem?_eq_getElem (by omega)⟩
    obtain ⟨cu, hcu⟩ : ∃ c, U[i]? = some c := ⟨_, List.getElem?_eq_getElem (by omega)⟩
    obtain ⟨a, rfl, hma⟩ := hK0.nds.sl.at hy
    have hps0 := hK0.nds.ps _ (List.mem_of_getElem? hy)
    dsimp only [NdV.pv] at hps0
    have hps1 := hps0
    obtain ⟨_, _, _, he_, _, hcy, hcy2, _⟩ := hps1
    cases he_
    unfold maxLen at hcy2
    refine CW.seq_to (X := Value) (fun u => [(0, .pointer (some ⟨gk, 0, none⟩)), (1, .slice (some ⟨b, 0, none⟩) l.length l.length), (5, .slice (some ⟨ub, 0, none⟩) l.length l.length), (6, u), (7, .int .i64 (i : Int))]) (fun u w0 => Blk w0 ub TBo (boolC (if ci = true ∨ cu = true then setAll (ndsL l) U ps else U)) ∧ Own w0 TDg 32 u (flatD (if ci = true ∧ ¬ cu = true then out ++ [id] else out)) ∧ (∀ k, u.ownBlock = some k → w1.heap.size ≤ k) ∧ Ext w w0 ∧ w1.heap.size ≤ w0.heap.size) ?_ ?_
    · skip
      refine CW.block ?_   -- block 1
      refine CW.seq_to (X := Value) (fun u => [(0, .pointer (some ⟨gk, 0, none⟩)), (1, .slice (some ⟨b, 0, none⟩) l.length l.length), (5, .slice (some ⟨ub, 0, none⟩) l.length l.length), (6, u), (7, .int .i64 (i : Int))]) (fun u w0 => Own w0 TDg 32 u (flatD (if ci = true ∧ ¬ cu = true then out ++ [id] else out)) ∧ (∀ k, u.ownBlock = some k → w1.heap.size ≤ k) ∧ Ext w w0 ∧ Blk w0 ub TBo (boolC U) ∧ w1.heap.size ≤ w0.heap.size) ?_ ?_
      · skip
        refine CW.seq_test 36 (ci = true ∧ ¬ cu = true) ?_ ?_
        · refine CW.region ?_
          refine WL.val (Y.move rfl) (by decide) ?_   -- t26 := move t1
          refine WL.val (Y.move rfl) (by decide) ?_   -- t27 := move t7
          refine WL.val (Y.indexAddrN Try.underlying58 rfl rfl sz0_bool (by omega)) (by decide) ?_   -- t28 := indexAddr 58 t26 t27
          refine WL.val (Y.load1 Try.underlying4 rfl (hIn.bcell hci) rfl) (by decide) ?_   -- t29 := load 4 t28
          refine WL.val (Y.move rfl) (by decide) ?_   -- t30 := move t29
          first | refine WL.casesD (d := 30) rfl (fun hg30 => ?_) (fun hg30 => ?_) | refine WL.casesND (d := 30) rfl (fun hg30 => ?_) (fun hg30 => ?_) | refine WL.cases (d := 30) rfl (fun hg30 => ?_) (fun hg30 => ?_)
          · -- t30 = T
            refine WL.gval rfl rfl (Y.move rfl) (by decide) ?_   -- t31 := move t5 [if 4=true]
            refine WL.gval rfl rfl (Y.move rfl) (by decide) ?_   -- t32 := move t7 [if 4=true]
            refine WL.gval rfl rfl (Y.indexAddrN Try.underlying58 rfl rfl sz0_bool (by omega)) (by decide) ?_   -- t33 := indexAddr 58 t31 t32 [if 4=true]
            refine WL.gval rfl rfl (Y.load1 Try.underlying4 rfl (hU.bcell hcu) rfl) (by decide) ?_   -- t34 := load 4 t33 [if 4=true]
            refine WL.gval rfl rfl (Y.not rfl) (by decide) ?_   -- t35 := unOp not 4 t34 [if 4=true]
            refine WL.val (Y.pick rfl rfl) (by decide) ?_   -- t36 := pick t30 t35 c(false)
            refine WL.nil ⟨⟨_, rfl, ?_⟩, rfl, (by repeat (first | exact Fr.le.refl | refine Fr.le.push rfl ?_))⟩
            first | (simp only [*, Int.natCast_inj, Bool.not_eq_true', decide_eq_false_iff_not, decide_eq_true_eq, not_true_eq_false, not_false_eq_true, true_and, false_and, and_true, and_false, false_or, or_false, true_or, or_true, iff_true, true_iff, iff_false, false_iff]; done) | (simp_all; done) | (refine congrArg Value.bool (Bool.eq_iff_iff.2 ?_); simp_all; done) | (simp_all; omega)
          · -- t30 = F
            refine WL.goff rfl rfl (by decide) ?_   -- t31 := move t5 [if 4=true]
            refine WL.goff rfl rfl (by decide) ?_   -- t32 := move t7 [if 4=true]
            refine WL.goff rfl rfl (by decide) ?_   -- t33 := indexAddr 58 t31 t32 [if 4=true]
            refine WL.goff rfl rfl (by decide) ?_   -- t34 := load 4 t33 [if 4=true]
            refine WL.goff rfl rfl (by decide) ?_   -- t35 := unOp not 4 t34 [if 4=true]
            refine WL.val (Y.pick rfl rfl) (by decide) ?_   -- t36 := pick t30 t35 c(false)
            refine WL.nil ⟨⟨_, rfl, ?_⟩, rfl, (by repeat (first | exact Fr.le.refl | refine Fr.le.push rfl ?_))⟩
            first | (simp only [*, Int.natCast_inj, Bool.not_eq_true', decide_eq_false_iff_not, decide_eq_true_eq, not_true_eq_false, not_false_eq_true, true_and, false_and, and_true, and_false, false_or, or_false, true_or, or_true, iff_true, true_iff, iff_false, false_iff]; done) | (simp_all; done) | (refine congrArg Value.bool (Bool.eq_iff_iff.2 ?_); simp_all; done) | (simp_all; omega)
        first | refine CW.condD rfl (fun ht11 => ?_) (fun ht11 => ?_) | refine CW.condND rfl (fun ht11 => ?_) (fun ht11 => ?_) | refine CW.condN rfl (fun ht11 => ?_) (fun ht11 => ?_) | refine CW.cond rfl (fun ht11 => ?_) (fun ht11 => ?_)
        · -- then
          refine CW.region ?_   -- region 7
          refine WL.val (Y.move rfl) (by decide) ?_   -- t37 := move t6
          refine WL.val (Y.move rfl) (by decide) ?_   -- t38 := move t0
          refine WL.val (Y.nilCheck rfl) (by decide) ?_   -- t39 := nilCheck t38
          refine WL.val (Y.fieldAddr fo_graphlook0 rfl) (by decide) ?_   -- t40 := fieldAddr 61 t39 0
          refine WL.val (Y.load1 Try.underlying22 rfl hK.blk.mem.graphlook0 rfl) (by decide) ?_   -- t41 := load 22 t40
          refine WL.val (Y.move rfl) (by decide) ?_   -- t42 := move t7
          refine WL.val (Y.indexAddrN Try.underlying22 rfl rfl sz0_apiNode (by omega)) (by decide) ?_   -- t43 := indexAddr 22 t41 t42
          refine WL.val (Y.fieldAddr fo_apiNode0 rfl) (by decide) ?_   -- t44 := fieldAddr 48 t43 0
          refine WL.val (Y.load Try.underlying45 rfl (hma.ext hK.old).node0 (sz_apiDigest _) rfl) (by decide) ?_   -- t45 := load 45 t44
          refine WL.st (St.buildSlice rfl (bs1_dig _)) (by decide) fun v46 w3 hR3 => ?_   -- t46 := buildSlice 23 1 [(0,t45)]
          obtain ⟨g46, rfl, hg46, hB46, hx3⟩ := hR3
          have hz3 := hx3.size
          have hE := hE.thenExt hx3
          refine WL.st (St.append Try.underlying23 Try.underlying23 ai_dig rfl rfl (hO.ext hx3) (Src.one hB46 (digC_length _)) one_digC (by rw [flat_length digC_length]; omega)) (by decide) fun v47 w4 hR4 => ?_   -- t47 := call append(t37, t46) : 23,23
          obtain ⟨hO4, hc4, hf4⟩ := hR4
          have hz4 := hc4.size
          have hE := hE.step hc4 (fun k h => by have := hfu k h; omega)
          have hf4 : ∀ k, v47.ownBlock = some k → w1.heap.size ≤ k := by
            rcases hf4 with h | h
            · intro k hk; rw [h] at hk; exact hfu k hk
            · intro k hk; have := h k hk; omega
          have hU := (hU.ext hx3).chg hc4 (fun h => by have := hfu _ h; omega)
          refine WL.val (Y.assign rfl) (by decide) ?_   -- t6 := assign t47
          refine WL.nil ?_
          exact ⟨v47, (by repeat (first | exact Fr.le.nil | refine Fr.le.cons rfl ?_)), by rw [if_pos (by assumption)]; simpa [flatD] using hO4, hf4, hE, hU, by omega⟩
        -- else
        refine CW.skip ?_
        exact ⟨.slice B mb cb, (by repeat (first | exact Fr.le.nil | refine Fr.le.cons rfl ?_)), by rw [if_neg (by assumption)]; exact hO, hfu, hE, hU, by omega⟩
      rintro u w5 hj5
      clear hE hK hU hIn hO hfu
      obtain ⟨hO, hfu, hE, hU, hz5⟩ := hj5
      have hK := hK0.ext hE
      have hIn := hIn0.ext hE
      refine CW.seq_test 57 (ci = true ∨ cu = true) ?_ ?_
      · refine CW.region ?_
        refine WL.val (Y.move rfl) (by decide) ?_   -- t48 := move t1
        refine WL.val (Y.move rfl) (by decide) ?_   -- t49 := move t7
        refine WL.val (Y.indexAddrN Try.underlying58 rfl rfl sz0_bool (by omega)) (by decide) ?_   -- t50 := indexAddr 58 t48 t49
        refine WL.val (Y.load1 Try.underlying4 rfl (hIn.bcell hci) rfl) (by decide) ?_   -- t51 := load 4 t50
        refine WL.val (Y.move rfl) (by decide) ?_   -- t52 := move t51
        first | refine WL.casesD (d := 52) rfl (fun hg52 => ?_) (fun hg52 => ?_) | refine WL.casesND (d := 52) rfl (fun hg52 => ?_) (fun hg52 => ?_) | refine WL.cases (d := 52) rfl (fun hg52 => ?_) (fun hg52 => ?_)
        · -- t52 = T
          refine WL.goff rfl rfl (by decide) ?_   -- t53 := move t5 [if 4=false]
          refine WL.goff rfl rfl (by decide) ?_   -- t54 := move t7 [if 4=false]
          refine WL.goff rfl rfl (by decide) ?_   -- t55 := indexAddr 58 t53 t54 [if 4=false]
          refine WL.goff rfl rfl (by decide) ?_   -- t56 := load 4 t55 [if 4=false]
          refine WL.val (Y.pick rfl rfl) (by decide) ?_   -- t57 := pick t52 c(true) t56
          refine WL.nil ⟨⟨_, rfl, ?_⟩, rfl, (by repeat (first | exact Fr.le.refl | refine Fr.le.push rfl ?_))⟩
          first | (simp only [*, Int.natCast_inj, Bool.not_eq_true', decide_eq_false_iff_not, decide_eq_true_eq, not_true_eq_false, not_false_eq_true, true_and, false_and, and_true, and_false, false_or, or_false, true_or, or_true, iff_true, true_iff, iff_false, false_iff]; done) | (simp_all; done) | (refine congrArg Value.bool (Bool.eq_iff_iff.2 ?_); simp_all; done) | (simp_all; omega)
        · -- t52 = F
          refine WL.gval rfl rfl (Y.move rfl) (by decide) ?_   -- t53 := move t5 [if 4=false]
          refine WL.gval rfl rfl (Y.move rfl) (by decide) ?_   -- t54 := move t7 [if 4=false]
          refine WL.gval rfl rfl (Y.indexAddrN Try.underlying58 rfl rfl sz0_bool (by omega)) (by decide) ?_   -- t55 := indexAddr 58 t53 t54 [if 4=false]
          refine WL.gval rfl rfl (Y.load1 Try.underlying4 rfl (hU.bcell hcu) rfl) (by decide) ?_   -- t56 := load 4 t55 [if 4=false]
          refine WL.val (Y.pick rfl rfl) (by decide) ?_   -- t57 := pick t52 c(true) t56
          refine WL.nil ⟨⟨_, rfl, ?_⟩, rfl, (by repeat (first | exact Fr.le.refl | refine Fr.le.push rfl ?_))⟩
          first | (simp only [*, Int.natCast_inj, Bool.not_eq_true', decide_eq_false_iff_not, decide_eq_true_eq, not_true_eq_false, not_false_eq_true, true_and, false_and, and_true, and_false, false_or, or_false, true_or, or_true, iff_true, true_iff, iff_false, false_iff]; done) | (simp_all; done) | (refine congrArg Value.bool (Bool.eq_iff_iff.2 ?_); simp_all; done) | (simp_all; omega)
      first | refine CW.condD rfl (fun ht12 => ?_) (fun ht12 => ?_) | refine CW.condND rfl (fun ht12 => ?_) (fun ht12 => ?_) | refine CW.condN rfl (fun ht12 => ?_) (fun ht12 => ?_) | refine CW.cond rfl (fun ht12 => ?_) (fun ht12 => ?_)
      · -- then
        refine CW.seq fun K13 hK13 => ?_
        refine CW.region ?_   -- region 9
        refine WL.val (Y.move rfl) (by decide) ?_   -- t58 := move t0
        refine WL.val (Y.nilCheck rfl) (by decide) ?_   -- t59 := nilCheck t58
        refine WL.val (Y.fieldAddr fo_graphlook0 rfl) (by decide) ?_   -- t60 := fieldAddr 61 t59 0
        refine WL.val (Y.load1 Try.underlying22 rfl hK.blk.mem.graphlook0 rfl) (by decide) ?_   -- t61 := load 22 t60
        refine WL.val (Y.move rfl) (by decide) ?_   -- t62 := move t7
        refine WL.val (Y.indexAddrN Try.underlying22 rfl rfl sz0_apiNode (by omega)) (by decide) ?_   -- t63 := indexAddr 22 t61 t62
        refine WL.val (Y.fieldAddr fo_apiNode1 rfl) (by decide) ?_   -- t64 := fieldAddr 48 t63 1
        refine WL.val (Y.load1 Try.underlying23 rfl (hma.ext hK.old).node1 rfl) (by decide) ?_   -- t65 := load 23 t64
        refine WL.val (Y.len_slice Try.underlying23 rfl) (by decide) ?_   -- t66 := call len(t65) : 23
        refine WL.val (Y.move rfl) (by decide) ?_   -- t67 := move c(0:i64)
        refine WL.nil ?_
        refine hK13 _ _ ?_; try clear hK13 K13
        refine CW.block ?_   -- block 2
        refine CW.loop (X := Nat) (fun x => [(0, .pointer (some ⟨gk, 0, none⟩)), (1, .slice (some ⟨b, 0, none⟩) l.length l.length), (5, .slice (some ⟨ub, 0, none⟩) l.length l.length), (6, u), (7, .int .i64 (i : Int)), (65, .slice Ay ps.length cy), (66, .int .i64 (ps.length : Int)), (67, .int .i64 (x : Int))]) (fun x w0 => x ≤ ps.length ∧ Blk w0 ub TBo (boolC (setAll (ndsL l) U (ps.take x))) ∧ Own w0 TDg 32 u (flatD (if ci = true ∧ ¬ cu = true then out ++ [id] else out)) ∧ Ext w w0 ∧ w5.heap.size ≤ w0.heap.size) (fun x => ps.length - x) 0 (by repeat (first | exact Fr.le.nil | refine Fr.le.cons rfl ?_)) ⟨Nat.zero_le _, by simpa [setAll] using hU, hO, hE, Nat.le_refl _⟩ ?_
        intro x w6 hl6
        clear hE hK hU hO
        obtain ⟨hxp, hU, hO, hE, hz6⟩ := hl6
        have hK := hK0.ext hE
        refine CW.seq fun K14 hK14 => ?_
        refine CW.region ?_   -- region 10
        refine WL.val (Y.lss rfl rfl) (by decide) ?_   -- t68 := binOp lss 3 t67 t66 3
        refine WL.nil ?_
        refine hK14 _ _ ?_; try clear hK14 K14
        refine CW.seq fun K15 hK15 => ?_
        first | refine CW.condD rfl (fun ht16 => ?_) (fun ht16 => ?_) | refine CW.condND rfl (fun ht16 => ?_) (fun ht16 => ?_) | refine CW.condN rfl (fun ht16 => ?_) (fun ht16 => ?_) | refine CW.cond rfl (fun ht16 => ?_) (fun ht16 => ?_)
        · -- then
          refine CW.skip ?_
          refine hK15 _ _ ?_; try clear hK15 K15
          refine CW.seq fun K17 hK17 => ?_
          refine CW.block ?_   -- block 3
          refine CW.seq fun K18 hK18 => ?_
          obtain ⟨d, hd⟩ : ∃ d, ps[x]? = some d := ⟨_, List.getElem?_eq_getElem (by omega)⟩
          obtain ⟨a2, rfl, hma2⟩ := hps0.at hd
          have hdi := mem_idsTake (ok_par hK0.ok hyn (List.mem_of_getElem? hd))
          have hix := ixN_lt hdi
          rw [hnl] at hix
          obtain ⟨jf, hf⟩ := placed_ix hdi
          obtain ⟨cb2, hcb2⟩ : ∃ cb, (setAll (ndsL l) U (ps.take x))[ixN (ndsL l) d]? = some cb := ⟨_, List.getElem?_eq_getElem (by rw [setAll_length]; omega)⟩
          refine CW.region ?_   -- region 11
          refine WL.val (Y.indexAddrN Try.underlying23 rfl rfl sz0_apiDigest (by omega)) (by decide) ?_   -- t69 := indexAddr 23 t65 t67
          refine WL.val (Y.load Try.underlying45 rfl (hma2.ext hK.old) (sz_apiDigest _) rfl) (by decide) ?_   -- t70 := load 45 t69
          refine as_apiDigest rfl (by simp) (by decide) fun g9 w7 hx7 hg9 hB9 => ?_   -- alloc 45; store 45 t9 t70
          have hlt9 := hB9.lt; have hz7 := hx7.size
          have hM9 := hB9.mem; have hz7 := hx7.size; have hE := hE.thenExt hx7; have hK := hK.ext hx7
          refine WL.nil ?_
          refine hK18 _ _ ?_; try clear hK18 K18
          refine CW.head 8 (by kernel_rfl) (by kernel_rfl) fun w8 hx8 => ?_   -- region 12
          skip; have hz8 := hx8.size; have hE := hE.thenExt hx8; have hK := hK.ext hx8; have hB9 := hB9.ext hx8
          refine HL.val (Y.move rfl) (by decide) ?_   -- t71 := move t5
          refine HL.val (Y.move rfl) (by decide) ?_   -- t72 := move t0
          refine HL.val (Y.nilCheck rfl) (by decide) ?_   -- t73 := nilCheck t72
          refine HL.val (Y.fieldAddr fo_graphlook1 rfl) (by decide) ?_   -- t74 := fieldAddr 61 t73 1
          refine HL.val (Y.load1 Try.underlying59 rfl hK.blk.mem.graphlook1 rfl) (by decide) ?_   -- t75 := load 59 t74
          refine HL.val (Y.load Try.underlying45 rfl hB9.mem (sz_apiDigest _) rfl) (by decide) ?_   -- t76 := load 45 t9
          refine HL.val (Y.lookupAt keyDig (fun _ => rfl) Try.underlying59 rfl rfl hK.map hf rfl) (by decide) ?_   -- t77 := lookup 59 t75 t76 false
          refine HL.val (Y.indexAddrN Try.underlying58 rfl rfl sz0_bool (by omega)) (by decide) ?_   -- t78 := indexAddr 58 t71 t77
          refine HL.nil ?_
          refine WL.storeB rfl rfl rfl sz_bool ((hU.ext hx7).ext hx8) hcb2 (fun w9 hc9 hB9_ => ?_)   -- _ := store 4 t78 c(true)
          have hz9 := hc9.size; have hE := hE.step hc9 (fun k h => by omega); have hK := hK.chg hc9 (fun h => by omega) (fun h => by omega) (fun h => by omega) (fun k h => by omega); have hB9 := hB9.chg hc9 (fun h => by omega)
          have hU := hB9_
          have hO := ((hO.ext hx7).ext hx8).chg hc9 (fun k hk h => by have := hfu k hk; omega)
          refine WL.nil ?_
          refine hK17 _ _ ?_; try clear hK17 K17
          refine CW.region ?_   -- region 13
          refine WL.val (Y.add rfl rfl ⟨by omega, by omega⟩) (by decide) ?_   -- t79 := binOp add 3 t67 c(1:i64) 3
          refine WL.val (Y.move rfl) (by decide) ?_   -- t67 := move t79
          refine WL.nil ?_
          refine ⟨x + 1, by show ps.length - (x + 1) < ps.length - x; omega, (by repeat (first | exact Fr.le.nil | refine Fr.le.cons rfl ?_)), by show x + 1 ≤ ps.length; omega, ?_, hO, hE, by omega⟩
          show Blk _ _ _ (boolC (setAll _ _ (ps.take (x + 1))))
          rw [take_succ hd, setAll_app]
          exact hU
        -- else
        refine CW.exit ?_   -- exit 2
        exact ⟨u, (by repeat (first | exact Fr.le.nil | refine Fr.le.cons rfl ?_)), by rw [if_pos (by assumption)]; rw [List.take_of_length_le (by omega)] at hU; exact hU, hO, hfu, hE, by omega⟩
      -- else
      refine CW.skip ?_
      exact ⟨u, (by repeat (first | exact Fr.le.nil | refine Fr.le.cons rfl ?_)), by rw [if_neg (by assumption)]; exact hU, hO, hfu, hE, by omega⟩
    rintro u w10 hj10
    clear hE hK hU hO hfu
    obtain ⟨hU, hO, hfu, hE, hz10⟩ := hj10
    refine CW.region ?_   -- region 5
    refine WL.val (Y.move rfl) (by decide) ?_   -- t24 := move t7
    refine WL.val (Y.sub rfl rfl ⟨by omega, by omega⟩) (by decide) ?_   -- t25 := binOp sub 3 t24 c(1:i64) 3
    refine WL.val (Y.assign rfl) (by decide) ?_   -- t7 := assign t25
    refine WL.nil ?_
    refine ⟨(i, (if ci = true ∨ cu = true then setAll (ndsL l) U ps else U), u, (if ci = true ∧ ¬ cu = true then out ++ [id] else out)), by show i < i + 1; omega, (by repeat (first | exact Fr.le.nil | refine Fr.le.cons rfl ?_)), by show i ≤ _; omega, hU, ?_, hO, hfu, ?_, ?_, hE, by omega⟩
    · show (ite _ _ _ : List Bool).length = _
      split <;> simp [setAll_length, hUl]
    · show (ite _ _ _ : List Dig).length ≤ l.length - i
      split <;> (try simp only [List.length_append, List.length_singleton]) <;> omega
    · show _ = headsD (ndsL l) In i _ _
      rw [hh, headsD_at hyn]
      simp only [hci, hcu, Option.some.injEq]
  -- else
  refine CW.exit ?_   -- exit 0
  refine hK4 _ _ ?_; try clear hK4 K4
  refine CW.seq fun K19 hK19 => ?_
  refine CW.region ?_   -- region 14
  refine WL.val (Y.move rfl) (by decide) ?_   -- t80 := move t6
  refine WL.call Try.func49 rfl rfl rfl (sort_gen cfO lt_cfO Try.func50 rfl rfl gorder_any _ _ _ _ _ hO (by omega)) (by simp) ?_; rintro v81 w11 hR11   -- t81 := call F49(t80, F50) : 23,77
  obtain ⟨rfl, hO11, hc11⟩ := hR11
  have hz11 := hc11.size
  have hE := hE.step hc11 (fun k h => by have := hfu k h; omega)
  refine WL.nil ?_
  refine hK19 _ _ ?_; try clear hK19 K19
  refine CW.seq fun K20 hK20 => ?_
  refine CW.region ?_   -- region 15
  refine WL.val (Y.move rfl) (by decide) ?_   -- t82 := move t6
  refine WL.val (Y.assign rfl) (by decide) ?_   -- t4 := assign t82
  refine WL.nil ?_
  refine hK20 _ _ ?_; try clear hK20 K20
  refine CW.ret ⟨_, rfl, ?_⟩
  refine ⟨?_, fun k hk => by have := hfu k hk; omega, hE⟩
  have hk0 : k = 0 := by omega
  subst hk0
  rw [headsL, hnl, hh]
  exact hO11
end Go.Proofs.Ytecolkngbcgmcaa

/- graph.Heads, walked. No condition. -/
namespace Go.Fw
open Go.RowKit
theorem run_bs2 {P : Program} {t e : TypeId} {ie : TypeInfo} {z : Value} {a b : Value} (hu : P.underlying t = some (.slice e)) (hi : P.info? e = some ie) (hz : ie.zero = some z) (h1 : ie.size = 1) (ha : a.cells = #[a]) (hb : b.cells = #[b]) (w : World) :
    (Instr.buildSlice t 2 [(0, a), (1, b)].toArray).run P w = .ok (.slice (some ⟨w.heap.size, 0, none⟩) 2 2) (w.alloc (.cells [a, b].toArray e)) := by
  refine run_buildSlice w t e 2 _ _ ie z hu hi hz (by omega) (by omega) ?_
  have h := Go.Great.fill_whole (s := ie.size) (by omega) [a, b] ((Array.range (2 * ie.size)).map (z.cells[· % z.cells.size]!)) (by intro u hu; simp at hu; rcases hu with rfl | rfl <;> simp [*]) (by simp)
  simpa [ha, hb] using h
theorem Blk.slV {w : World} {g : Nat} {e : TypeId} {ds : List (Value × List Dig)} (h : Blk w g e (ds.map Prod.fst)) (hl : ds.length ≤ maxLen) : Sl w (fun x : Value × List Dig => [x.1]) 1 (.slice (some ⟨g, 0, none⟩) ds.length ds.length) ds :=
  ⟨_, _, _, rfl, rfl, Nat.le_refl _, hl, fun i x hi => ⟨_, rfl, by
    rw [Nat.mul_one]
    exact h.mem.sub i fun j v hj => by
      cases j with
      | zero => simp at hj; subst hj; simp [hi]
      | succ j => simp at hj⟩⟩
end Go.Fw
namespace Go.Proofs.Ytecolkngbcgmcaa
open Go.RowKit Go.Fw Go.Pl Go.Sort
theorem info_sd : ∃ i : TypeInfo, Try.prog.info? TSd = some i ∧ i.zero = some (.slice none 0 0) ∧ i.size = 1 := by
  have h : (Try.prog.info? TSd).map (fun i => (i.zero, i.size)) = some (some (.slice none 0 0), 1) := by kernel_rfl
  cases hi : Try.prog.info? TSd with
  | none => simp [hi] at h
  | some i => simp [hi] at h; exact ⟨i, rfl, h.1, h.2⟩
theorem bs1_sd (A : Option Addr) (m c : Nat) (w : World) : (Instr.buildSlice 78 1 [(0, .slice A m c)].toArray).run Try.prog w = .ok (.slice (some ⟨w.heap.size, 0, none⟩) 1 1) (w.alloc (.cells [.slice A m c].toArray TSd)) := by
  obtain ⟨i, hi, hz, hs⟩ := info_sd
  exact run_bs1 Try.underlying78 hi hz (by omega) (by omega) rfl (by rw [hs]; rfl) w
theorem bs2_sd (A B : Option Addr) (m c n d : Nat) (w : World) : (Instr.buildSlice 78 2 [(0, .slice A m c), (1, .slice B n d)].toArray).run Try.prog w = .ok (.slice (some ⟨w.heap.size, 0, none⟩) 2 2) (w.alloc (.cells [.slice A m c, .slice B n d].toArray TSd)) := by
  obtain ⟨i, hi, hz, hs⟩ := info_sd
  exact run_bs2 Try.underlying78 hi hz hs rfl rfl w
theorem wrongQ_in {l : List Nd} {ids : List Dig} (h : wrongQ l ids = 0) : ∀ d ∈ ids, d ∈ idsL l := by
  intro d hd
  unfold wrongQ at h
  split at h
  · rename_i h1; exact absurd h h1
  · split at h
    · omega
    · rename_i h2
      by_cases hm : d ∈ idsL l
      · exact hm
      · exact absurd ⟨d, hd, hm⟩ h2

set_option maxRecDepth 100000 in
set_option maxHeartbeats 1000000 in
theorem gHeads_any (u v0 : Value) (l : List NdV) (ids : List Dig) (w : World) (hl : Nds w u l) (hd : Sl w digC 32 v0 ids) : Calls Try.prog 14 #[u, v0] w (Ret fun v w' => ∃ hv, v = .tuple #[hv, .int .i64 (wrongQ (ndsL l) ids)] ∧ Own w' TDg 32 hv (flatD (if wrongQ (ndsL l) ids = 0 then headsL (ndsL l) (mark0 (ndsL l) ids) else [])) ∧ (∀ k, hv.ownBlock = some k → w.heap.size ≤ k) ∧ Ext w w') := by
  have hl0 := hl
  obtain ⟨A, c, rfl, hmc, hcm⟩ := hl.sl.lens
  unfold maxLen at hcm
  have hd0 := hd
  obtain ⟨A1, m1, c1, rfl, hdm, hdc, hdx, hdg⟩ := hd
  unfold maxLen at hdx
  have hnl : (ndsL l).length = l.length := by simp
  obtain ⟨bi, hbi, hbz, hbs, hbb⟩ := info_boolT
  refine calls_of_CW 42 [4, 5] [(0, .slice A l.length c), (1, .slice A1 m1 c1)] Try.func14 rfl rfl rfl (by simp) args2 ?_
  have hE : Ext w w := Chg.refl
  refine CW.seq fun K1 hK1 => ?_
  refine CW.region ?_   -- region 0
  refine WL.val (Y.assign rfl) (by decide) ?_   -- t4 := assign c(nilslice)
  refine WL.val (Y.assign rfl) (by decide) ?_   -- t5 := assign c(0:i64)
  refine WL.nil ?_
  refine hK1 _ _ ?_; try clear hK1 K1
  refine CW.seq fun K2 hK2 => ?_
  refine CW.region ?_   -- region 1
  refine WL.val (Y.move rfl) (by decide) ?_   -- t12 := move t0
  refine WL.val (Y.move rfl) (by decide) ?_   -- t13 := move t1
  refine WL.st (St.buildSlice rfl (bs1_sd _ _ _)) (by decide) fun v14 w1 hR1 => ?_   -- t14 := buildSlice 78 1 [(0,t13)]
  obtain ⟨g14, rfl, hg14, hB14, hx1⟩ := hR1
  have hz1 := hx1.size
  have hE := hE.thenExt hx1
  refine WL.call Try.func35 rfl rfl rfl (gbegin_any _ _ l [(.slice A1 m1 c1, ids)] _ (hl0.ext hx1) (Blk.slV (ds := [(.slice A1 m1 c1, ids)]) hB14 (by simp [maxLen])) (fun x hx => by simp at hx; subst hx; exact hd0.ext hx1)) (by simp) ?_; rintro v15 w2 hR2   -- t15 := call F35(t12, t14) : 22,78
  obtain ⟨p, rfl, hx2, hp⟩ := hR2
  have hz2 := hx2.size
  have hE := hE.thenExt hx2
  have hfl : ([((.slice A1 m1 c1 : Value), ids)].map Prod.snd).flatten = ids := by simp
  simp only [hfl] at hp ⊢
  refine WL.val (Y.move rfl) (by decide) ?_   -- t11 := move t15
  refine WL.val (Y.extract rfl rfl) (by decide) ?_   -- t16 := extract t11 0
  refine WL.val (Y.extract rfl rfl) (by decide) ?_   -- t17 := extract t11 1
  refine WL.val (Y.assign rfl) (by decide) ?_   -- t6 := assign t16
  refine WL.val (Y.assign rfl) (by decide) ?_   -- t7 := assign t17
  refine WL.nil ?_
  refine hK2 _ _ ?_; try clear hK2 K2
  refine CW.seq fun K3 hK3 => ?_
  refine CW.seq fun K4 hK4 => ?_
  refine CW.region ?_   -- region 2
  refine WL.val (Y.move rfl) (by decide) ?_   -- t18 := move t7
  refine WL.val (Y.neq rfl rfl) (by decide) ?_   -- t19 := binOp neq 24 t18 c(0:i64) 24
  refine WL.nil ?_
  refine hK4 _ _ ?_; try clear hK4 K4
  first | refine CW.condD rfl (fun ht5 => ?_) (fun ht5 => ?_) | refine CW.condND rfl (fun ht5 => ?_) (fun ht5 => ?_) | refine CW.condN rfl (fun ht5 => ?_) (fun ht5 => ?_) | refine CW.cond rfl (fun ht5 => ?_) (fun ht5 => ?_)
  · -- then
    refine CW.seq fun K6 hK6 => ?_
    refine CW.region ?_   -- region 3
    refine WL.val (Y.move rfl) (by decide) ?_   -- t20 := move t7
    refine WL.val (Y.assign rfl) (by decide) ?_   -- t4 := assign c(nilslice)
    refine WL.val (Y.assign rfl) (by decide) ?_   -- t5 := assign t20
    refine WL.nil ?_
    refine hK6 _ _ ?_; try clear hK6 K6
    refine CW.ret ⟨_, rfl, ?_⟩
    have he : ¬ wrongQ (ndsL l) ids = 0 := by assumption
    exact ⟨_, rfl, by rw [if_neg he]; exact Own.nil, (fun k h => by simp [Value.ownBlock] at h), hE⟩
  -- else
  refine CW.skip ?_
  refine hK3 _ _ ?_; try clear hK3 K3
  refine CW.seq fun K7 hK7 => ?_
  have hq0 : wrongQ (ndsL l) ids = 0 := Decidable.not_not.1 (by assumption)
  obtain ⟨gk, r, sb, rfl, hK⟩ := hp hq0
  have hin := wrongQ_in hq0
  have hln := ok_len hK.ok
  have hltK := hK.lt
  have hnew := hK.new
  refine CW.region ?_   -- region 4
  refine WL.val (Y.move rfl) (by decide) ?_   -- t21 := move t0
  refine WL.val (Y.len_slice Try.underlying22 rfl) (by decide) ?_   -- t22 := call len(t21) : 22
  refine WL.st (St.makeB Try.underlying58 hbi hbz hbs hbb rfl rfl (by omega)) (by decide) fun v23 w3 hR3 => ?_   -- t23 := makeSlice 58 t22 t22
  obtain ⟨b, rfl, hb, hIn, hx3⟩ := hR3
  have hz3 := hx3.size
  have hE := hE.thenExt hx3
  have hK := hK.ext hx3
  have hltb := hIn.lt
  refine WL.val (Y.assign rfl) (by decide) ?_   -- t8 := assign t23
  refine WL.nil ?_
  refine hK7 _ _ ?_; try clear hK7 K7
  refine CW.seq fun K8 hK8 => ?_
  refine CW.seq fun K9 hK9 => ?_
  refine CW.region ?_   -- region 5
  refine WL.val (Y.move rfl) (by decide) ?_   -- t24 := move t1
  refine WL.val (Y.len_slice Try.underlying23 rfl) (by decide) ?_   -- t25 := call len(t24) : 23
  refine WL.val (Y.move rfl) (by decide) ?_   -- t26 := move c(0:i64)
  refine WL.nil ?_
  refine hK9 _ _ ?_; try clear hK9 K9
  refine CW.block ?_   -- block 0
  refine CW.loop (X := Nat) (fun x => [(6, .pointer (some ⟨gk, 0, none⟩)), (8, .slice (some ⟨b, 0, none⟩) l.length l.length), (24, .slice A1 m1 c1), (25, .int .i64 (m1 : Int)), (26, .int .i64 (x : Int))]) (fun x w0 => x ≤ m1 ∧ Blk w0 b TBo (boolC (setAll (ndsL l) (List.replicate l.length false) (ids.take x))) ∧ Ext w w0 ∧ LookAt w1 w0 gk r sb (.slice A l.length c) l (List.replicate l.length false)) (fun x => m1 - x) 0 (by repeat (first | exact Fr.le.nil | refine Fr.le.cons rfl ?_)) ⟨Nat.zero_le _, by simpa [setAll] using hIn, hE, hK⟩ ?_
  intro x w4 hl4
  clear hE hK hIn
  obtain ⟨hxm, hIn, hE, hK⟩ := hl4
  have hltK2 := hK.lt
  have hltb2 := hIn.lt
  have hzE := hE.size
  refine CW.seq fun K10 hK10 => ?_
  refine CW.region ?_   -- region 6
  refine WL.val (Y.lss rfl rfl) (by decide) ?_   -- t27 := binOp lss 3 t26 t25 3
  refine WL.nil ?_
  refine hK10 _ _ ?_; try clear hK10 K10
  refine CW.seq fun K11 hK11 => ?_
  first | refine CW.condD rfl (fun ht12 => ?_) (fun ht12 => ?_) | refine CW.condND rfl (fun ht12 => ?_) (fun ht12 => ?_) | refine CW.condN rfl (fun ht12 => ?_) (fun ht12 => ?_) | refine CW.cond rfl (fun ht12 => ?_) (fun ht12 => ?_)
  · -- then
    refine CW.skip ?_
    refine hK11 _ _ ?_; try clear hK11 K11
    refine CW.seq fun K13 hK13 => ?_
    refine CW.block ?_   -- block 1
    refine CW.seq fun K14 hK14 => ?_
    obtain ⟨d, hd⟩ : ∃ d, ids[x]? = some d := ⟨_, List.getElem?_eq_getElem (by omega)⟩
    obtain ⟨a, rfl, hma⟩ := hdg _ _ hd
    have hix := ixN_lt (hin d (List.mem_of_getElem? hd))
    rw [hnl] at hix
    obtain ⟨jf, hf⟩ := placed_ix (hin d (List.mem_of_getElem? hd))
    obtain ⟨cb, hcb⟩ : ∃ cb, (setAll (ndsL l) (List.replicate l.length false) (ids.take x))[ixN (ndsL l) d]? = some cb := ⟨_, List.getElem?_eq_getElem (by rw [setAll_length, List.length_replicate]; omega)⟩
    refine CW.region ?_   -- region 7
    refine WL.val (Y.indexAddrN Try.underlying23 rfl rfl sz0_apiDigest (by omega)) (by decide) ?_   -- t28 := indexAddr 23 t24 t26
    refine WL.val (Y.load Try.underlying45 rfl (hma.ext hE) (sz_apiDigest _) rfl) (by decide) ?_   -- t29 := load 45 t28
    refine as_apiDigest rfl (by simp) (by decide) fun g10 w5 hx5 hg10 hB10 => ?_   -- alloc 45; store 45 t10 t29
    have hlt10 := hB10.lt; have hz5 := hx5.size
    have hM10 := hB10.mem; have hz5 := hx5.size; have hE := hE.thenExt hx5
    refine WL.nil ?_
    refine hK14 _ _ ?_; try clear hK14 K14
    refine CW.head 8 (by kernel_rfl) (by kernel_rfl) fun w6 hx6 => ?_   -- region 8
    skip; have hz6 := hx6.size; have hE := hE.thenExt hx6; have hB10 := hB10.ext hx6
    refine HL.val (Y.move rfl) (by decide) ?_   -- t30 := move t8
    refine HL.val (Y.move rfl) (by decide) ?_   -- t31 := move t6
    refine HL.val (Y.nilCheck rfl) (by decide) ?_   -- t32 := nilCheck t31
    refine HL.val (Y.fieldAddr fo_graphlook1 rfl) (by decide) ?_   -- t33 := fieldAddr 61 t32 1
    refine HL.val (Y.load1 Try.underlying59 rfl ((hK.ext hx5).ext hx6).blk.mem.graphlook1 rfl) (by decide) ?_   -- t34 := load 59 t33
    refine HL.val (Y.load Try.underlying45 rfl hB10.mem (sz_apiDigest _) rfl) (by decide) ?_   -- t35 := load 45 t10
    refine HL.val (Y.lookupAt keyDig (fun _ => rfl) Try.underlying59 rfl rfl ((hK.ext hx5).ext hx6).map hf rfl) (by decide) ?_   -- t36 := lookup 59 t34 t35 false
    refine HL.val (Y.indexAddrN Try.underlying58 rfl rfl sz0_bool (by omega)) (by decide) ?_   -- t37 := indexAddr 58 t30 t36
    refine HL.nil ?_
    refine WL.storeB rfl rfl rfl sz_bool ((hIn.ext hx5).ext hx6) hcb (fun w7 hc7 hB7_ => ?_)   -- _ := store 4 t37 c(true)
    have hz7 := hc7.size; have hE := hE.step hc7 (fun k h => by omega); have hB10 := hB10.chg hc7 (fun h => by omega)
    have hK := ((hK.ext hx5).ext hx6).chg hc7 (fun h => by omega) (fun h => by omega) (fun h => by omega) (fun k h => by omega)
    refine WL.nil ?_
    refine hK13 _ _ ?_; try clear hK13 K13
    refine CW.region ?_   -- region 9
    refine WL.val (Y.add rfl rfl ⟨by omega, by omega⟩) (by decide) ?_   -- t38 := binOp add 3 t26 c(1:i64) 3
    refine WL.val (Y.move rfl) (by decide) ?_   -- t26 := move t38
    refine WL.nil ?_
    refine ⟨x + 1, by show m1 - (x + 1) < m1 - x; omega, (by repeat (first | exact Fr.le.nil | refine Fr.le.cons rfl ?_)), by show x + 1 ≤ m1; omega, ?_, hE, hK⟩
    show Blk _ _ _ (boolC (setAll _ _ (ids.take (x + 1))))
    rw [take_succ hd, setAll_app]
    exact hB7_
  -- else
  refine CW.exit ?_   -- exit 0
  refine hK8 _ _ ?_; try clear hK8 K8
  refine CW.seq fun K15 hK15 => ?_
  refine CW.region ?_   -- region 10
  refine WL.val (Y.move rfl) (by decide) ?_   -- t39 := move t6
  refine WL.val (Y.move rfl) (by decide) ?_   -- t40 := move t8
  refine WL.call Try.func36 rfl rfl rfl (gheads_any w1 _ gk r sb b _ l _ (mark0 (ndsL l) ids) hK (by rw [mark0, hnl]; rw [List.take_of_length_le (by omega)] at hIn; exact hIn) (by rw [mark0_length, hnl])) (by simp) ?_; rintro v41 w8 hR8   -- t41 := call F36(t39, t40) : 55,58
  obtain ⟨hO, hfu, hx8⟩ := hR8
  have hz8 := hx8.size
  have hzE2 := hE.size
  have hE := hE.thenExt hx8
  refine WL.val (Y.assign rfl) (by decide) ?_   -- t4 := assign t41
  refine WL.val (Y.assign rfl) (by decide) ?_   -- t5 := assign c(0:i64)
  refine WL.nil ?_
  refine hK15 _ _ ?_; try clear hK15 K15
  refine CW.ret ⟨_, rfl, ?_⟩
  exact ⟨_, by rw [hq0], by rw [if_pos hq0]; exact hO, fun k hk => by have := hfu k hk; omega, hE⟩
end Go.Proofs.Ytecolkngbcgmcaa

/- graph.Above, Common, Within, walked. No condition. -/
namespace Go.Proofs.Ytecolkngbcgmcaa
open Go.RowKit Go.Fw Go.Pl Go.Sort

set_option maxHeartbeats 1000000 in
theorem gWithin_any (u va vb : Value) (l : List NdV) (a b : List Dig) (w : World) (hl : Nds w u l) (ha : Sl w digC 32 va a) (hb : Sl w digC 32 vb b) : Calls Try.prog 29 #[u, va, vb] w (Ret fun v w' => v = .tuple #[.bool (if wrongQ (ndsL l) (a ++ b) = 0 then a.all (bitAt (markS (ndsL l) b) (ndsL l)) else false), .int .i64 (wrongQ (ndsL l) (a ++ b))] ∧ Ext w w') := by
  have hl0 := hl
  obtain ⟨A, c, rfl, hmc, hcm⟩ := hl.sl.lens
  unfold maxLen at hcm
  have ha0 := ha
  have hb0 := hb
  obtain ⟨A1, m1, c1, rfl, ham, hac, hax, hag⟩ := ha
  obtain ⟨A2, m2, c2, rfl, hbm, hbc, hbx, hbg⟩ := hb
  unfold maxLen at hax hbx
  have hnl : (ndsL l).length = l.length := by simp
  refine calls_of_CW 29 [6, 7] [(0, .slice A l.length c), (1, .slice A1 m1 c1), (2, .slice A2 m2 c2)] Try.func29 rfl rfl rfl (by simp) args3 ?_
  have hE : Ext w w := Chg.refl
  refine CW.seq fun K1 hK1 => ?_
  refine CW.region ?_   -- region 0
  refine WL.val (Y.assign rfl) (by decide) ?_   -- t6 := assign c(false)
  refine WL.val (Y.assign rfl) (by decide) ?_   -- t7 := assign c(0:i64)
  refine WL.nil ?_
  refine hK1 _ _ ?_; try clear hK1 K1
  refine CW.seq fun K2 hK2 => ?_
  refine CW.region ?_   -- region 1
  refine WL.val (Y.move rfl) (by decide) ?_   -- t12 := move t0
  refine WL.val (Y.move rfl) (by decide) ?_   -- t13 := move t1
  refine WL.val (Y.move rfl) (by decide) ?_   -- t14 := move t2
  refine WL.st (St.buildSlice rfl (bs2_sd _ _ _ _ _ _)) (by decide) fun v15 w1 hR1 => ?_   -- t15 := buildSlice 78 2 [(0,t13), (1,t14)]
  obtain ⟨g15, rfl, hg15, hB15, hx1⟩ := hR1
  have hz1 := hx1.size
  have hE := hE.thenExt hx1
  refine WL.call Try.func35 rfl rfl rfl (gbegin_any _ _ l [(.slice A1 m1 c1, a), (.slice A2 m2 c2, b)] _ (hl0.ext hx1) (Blk.slV (ds := [(.slice A1 m1 c1, a), (.slice A2 m2 c2, b)]) hB15 (by simp [maxLen])) (fun x hx => by simp at hx; rcases hx with rfl | rfl; exact ha0.ext hx1; exact hb0.ext hx1)) (by simp) ?_; rintro v16 w2 hR2   -- t16 := call F35(t12, t15) : 22,78
  obtain ⟨p, rfl, hx2, hp⟩ := hR2
  have hz2 := hx2.size
  have hE := hE.thenExt hx2
  have hfl : (List.map Prod.snd ([(.slice A1 m1 c1, a), (.slice A2 m2 c2, b)] : List (Value × List Dig))).flatten = a ++ b := by simp
  simp only [hfl] at hp ⊢
  refine WL.val (Y.move rfl) (by decide) ?_   -- t11 := move t16
  refine WL.val (Y.extract rfl rfl) (by decide) ?_   -- t17 := extract t11 0
  refine WL.val (Y.extract rfl rfl) (by decide) ?_   -- t18 := extract t11 1
  refine WL.allocStore1 (by kernel_rfl) rfl (by simp) rfl rfl (by decide) fun g8 w3 hx3 hg8 hB8 => ?_   -- alloc 55; store 55 t8 t17
  have hlt8 := hB8.lt; have hz3 := hx3.size
  have hM8 := hB8.mem; have hz3 := hx3.size; have hE := hE.thenExt hx3
  refine WL.val (Y.assign rfl) (by decide) ?_   -- t9 := assign t18
  refine WL.nil ?_
  refine hK2 _ _ ?_; try clear hK2 K2
  refine CW.seq fun K3 hK3 => ?_
  refine CW.seq fun K4 hK4 => ?_
  refine CW.region ?_   -- region 2
  refine WL.val (Y.move rfl) (by decide) ?_   -- t19 := move t9
  refine WL.val (Y.neq rfl rfl) (by decide) ?_   -- t20 := binOp neq 24 t19 c(0:i64) 24
  refine WL.nil ?_
  refine hK4 _ _ ?_; try clear hK4 K4
  first | refine CW.condD rfl (fun ht5 => ?_) (fun ht5 => ?_) | refine CW.condND rfl (fun ht5 => ?_) (fun ht5 => ?_) | refine CW.condN rfl (fun ht5 => ?_) (fun ht5 => ?_) | refine CW.cond rfl (fun ht5 => ?_) (fun ht5 => ?_)
  · -- then
    refine CW.seq fun K6 hK6 => ?_
    refine CW.region ?_   -- region 3
    refine WL.val (Y.move rfl) (by decide) ?_   -- t21 := move t9
    refine WL.val (Y.assign rfl) (by decide) ?_   -- t6 := assign c(false)
    refine WL.val (Y.assign rfl) (by decide) ?_   -- t7 := assign t21
    refine WL.nil ?_
    refine hK6 _ _ ?_; try clear hK6 K6
    refine CW.ret ⟨_, rfl, ?_⟩
    have he : ¬ wrongQ (ndsL l) (a ++ b) = 0 := by assumption
    exact ⟨by rw [if_neg he]; rfl, hE⟩
  -- else
  refine CW.skip ?_
  refine hK3 _ _ ?_; try clear hK3 K3
  refine CW.seq fun K7 hK7 => ?_
  have hq0 : wrongQ (ndsL l) (a ++ b) = 0 := Decidable.not_not.1 (by assumption)
  obtain ⟨gk, r, sb, rfl, hK⟩ := hp hq0
  have hin := wrongQ_in hq0
  have hln := ok_len hK.ok
  have hltK := hK.lt
  have hnew := hK.new
  have hK := hK.ext hx3
  refine CW.region ?_   -- region 4
  refine WL.val (Y.load1 Try.underlying55 rfl hB8.mem.cell0 rfl) (by decide) ?_   -- t22 := load 55 t8
  refine WL.val (Y.move rfl) (by decide) ?_   -- t23 := move t2
  refine WL.call Try.func42 rfl rfl rfl (gmarks_any w1 _ gk r sb _ _ l b _ hK (hb0.ext hx1) (fun d hd => hin d (List.mem_append_right _ hd))) (by simp) ?_; rintro v24 w4 hR4   -- t24 := call F42(t22, t23) : 55,23
  obtain ⟨bb, rfl, hbb2, hIn, ⟨S4, hK⟩, hc4⟩ := hR4
  have hz4 := hc4.size
  have hE := hE.step hc4 (fun k h => by omega)
  have hB8 := hB8.chg hc4 (fun h => by omega)
  refine WL.allocStore1 (by kernel_rfl) rfl (by simp) rfl rfl (by decide) fun g10 w5 hx5 hg10 hB10 => ?_   -- alloc 58; store 58 t10 t24
  have hlt10 := hB10.lt; have hz5 := hx5.size
  have hM10 := hB10.mem; have hz5 := hx5.size; have hE := hE.thenExt hx5; have hB8 := hB8.ext hx5
  refine WL.nil ?_
  refine hK7 _ _ ?_; try clear hK7 K7
  refine CW.seq fun K8 hK8 => ?_
  refine CW.region ?_   -- region 5
  refine WL.val (Y.move rfl) (by decide) ?_   -- t25 := move t1
  refine WL.val (Y.makeFunc rfl) (by decide) ?_   -- t26 := makeFunc ['Go.Fn.func', '47'] [] [t10, t8]
  refine WL.call Try.func46 rfl rfl rfl (containsFunc_any (fun d => !(bitAt (markS (ndsL l) b) (ndsL l) d)) [.pointer (some ⟨g10, 0, none⟩), .pointer (some ⟨g8, 0, none⟩)] _ a _ Try.func47 rfl rfl (fun d wn hd hxn => gwithin1_any w1 wn gk r sb bb g10 g8 _ l S4 (markS (ndsL l) b) d ((hK.ext hx5).ext hxn) ((hIn.ext hx5).ext hxn) (by rw [markS, setI_length, List.length_replicate, hnl]) (hB10.ext hxn) (hB8.ext hxn) (hin d (List.mem_append_left _ hd))) (ha0.ext hE)) (by simp) ?_; rintro v w6 ⟨rfl, hx6⟩; have hz6 := hx6.size; have hE := hE.thenExt hx6; have hB8 := hB8.ext hx6; have hB10 := hB10.ext hx6   -- t27 := call F46(t25, t26) : 23,71
  refine WL.val (Y.not rfl) (by decide) ?_   -- t28 := unOp not 4 t27
  refine WL.val (Y.assign rfl) (by decide) ?_   -- t6 := assign t28
  refine WL.val (Y.assign rfl) (by decide) ?_   -- t7 := assign c(0:i64)
  refine WL.nil ?_
  refine hK8 _ _ ?_; try clear hK8 K8
  refine CW.ret ⟨_, rfl, ?_⟩
  exact ⟨by rw [hq0, if_pos rfl, List.all_eq_not_any_not], hE⟩
end Go.Proofs.Ytecolkngbcgmcaa

/- graph.Common, walked. No condition. -/
namespace Go.Pl
def andB (S T : List Bool) : List Bool := List.zipWith (fun p q => p && q) S T
/-- So far. -/
def andT (S T : List Bool) (x : Nat) : List Bool := (andB S T).take x ++ S.drop x
theorem andT_zero (S T : List Bool) : andT S T 0 = S := by simp [andT]
theorem andT_length {S T : List Bool} {x : Nat} (h : T.length = S.length) (hx : x ≤ S.length) : (andT S T x).length = S.length := by
  simp [andT, andB, List.length_zipWith, h]; omega
theorem andT_full {S T : List Bool} (h : T.length = S.length) : andT S T S.length = andB S T := by
  rw [andT, List.take_of_length_le (by simp [andB, List.length_zipWith]; omega), List.drop_length, List.append_nil]
theorem andT_at {S T : List Bool} {x : Nat} {s : Bool} (h : T.length = S.length) (hs : S[x]? = some s) : (andT S T x)[x]? = some s := by
  have hx := (List.getElem?_eq_some_iff.1 hs).1
  have hl : ((andB S T).take x).length = x := by simp [andB, List.length_zipWith, h]; omega
  rw [andT, List.getElem?_append_right (by omega), hl, Nat.sub_self, List.getElem?_drop, Nat.add_zero, hs]
theorem andT_set {S T : List Bool} {x : Nat} {s t : Bool} (h : T.length = S.length) (hs : S[x]? = some s) (ht : T[x]? = some t) : (andT S T x).set x (s && t) = andT S T (x + 1) := by
  obtain ⟨hx, hsx⟩ := List.getElem?_eq_some_iff.1 hs
  have hl : ((andB S T).take x).length = x := by simp [andB, List.length_zipWith, h]; omega
  have hb : (andB S T)[x]? = some (s && t) := by simp [andB, List.getElem?_zipWith, hs, ht]
  rw [andT, List.set_append_right _ _ (by omega), hl, Nat.sub_self, List.drop_eq_getElem_cons hx, List.set_cons_zero, andT, take_succ hb]
  simp
end Go.Pl
namespace Go.Proofs.Ytecolkngbcgmcaa
open Go.RowKit Go.Fw Go.Pl Go.Sort

set_option maxHeartbeats 1000000 in
theorem gCommon_any (u va vb : Value) (l : List NdV) (a b : List Dig) (w : World) (hl : Nds w u l) (ha : Sl w digC 32 va a) (hb : Sl w digC 32 vb b) : Calls Try.prog 28 #[u, va, vb] w (Ret fun v w' => ∃ hv, v = .tuple #[hv, .int .i64 (wrongQ (ndsL l) (a ++ b))] ∧ Own w' TDg 32 hv (flatD (if wrongQ (ndsL l) (a ++ b) = 0 then headsL (ndsL l) (andB (markS (ndsL l) a) (markS (ndsL l) b)) else [])) ∧ (∀ k, hv.ownBlock = some k → w.heap.size ≤ k) ∧ Ext w w') := by
  have hl0 := hl
  obtain ⟨A, c, rfl, hmc, hcm⟩ := hl.sl.lens
  unfold maxLen at hcm
  have ha0 := ha
  have hb0 := hb
  obtain ⟨A1, m1, c1, rfl, ham, hac, hax, hag⟩ := ha
  obtain ⟨A2, m2, c2, rfl, hbm, hbc, hbx, hbg⟩ := hb
  unfold maxLen at hax hbx
  have hnl : (ndsL l).length = l.length := by simp
  refine calls_of_CW 52 [6, 7] [(0, .slice A l.length c), (1, .slice A1 m1 c1), (2, .slice A2 m2 c2)] Try.func28 rfl rfl rfl (by simp) args3 ?_
  have hE : Ext w w := Chg.refl
  refine CW.seq fun K1 hK1 => ?_
  refine CW.region ?_   -- region 0
  refine WL.val (Y.assign rfl) (by decide) ?_   -- t6 := assign c(nilslice)
  refine WL.val (Y.assign rfl) (by decide) ?_   -- t7 := assign c(0:i64)
  refine WL.nil ?_
  refine hK1 _ _ ?_; try clear hK1 K1
  refine CW.seq fun K2 hK2 => ?_
  refine CW.region ?_   -- region 1
  refine WL.val (Y.move rfl) (by decide) ?_   -- t14 := move t0
  refine WL.val (Y.move rfl) (by decide) ?_   -- t15 := move t1
  refine WL.val (Y.move rfl) (by decide) ?_   -- t16 := move t2
  refine WL.st (St.buildSlice rfl (bs2_sd _ _ _ _ _ _)) (by decide) fun v17 w1 hR1 => ?_   -- t17 := buildSlice 78 2 [(0,t15), (1,t16)]
  obtain ⟨g15, rfl, hg15, hB15, hx1⟩ := hR1
  have hz1 := hx1.size
  have hE := hE.thenExt hx1
  refine WL.call Try.func35 rfl rfl rfl (gbegin_any _ _ l [(.slice A1 m1 c1, a), (.slice A2 m2 c2, b)] _ (hl0.ext hx1) (Blk.slV (ds := [(.slice A1 m1 c1, a), (.slice A2 m2 c2, b)]) hB15 (by simp [maxLen])) (fun x hx => by simp at hx; rcases hx with rfl | rfl; exact ha0.ext hx1; exact hb0.ext hx1)) (by simp) ?_; rintro v18 w2 hR2   -- t18 := call F35(t14, t17) : 22,78
  obtain ⟨p, rfl, hx2, hp⟩ := hR2
  have hz2 := hx2.size
  have hE := hE.thenExt hx2
  have hfl : (List.map Prod.snd ([(.slice A1 m1 c1, a), (.slice A2 m2 c2, b)] : List (Value × List Dig))).flatten = a ++ b := by simp
  simp only [hfl] at hp ⊢
  refine WL.val (Y.move rfl) (by decide) ?_   -- t13 := move t18
  refine WL.val (Y.extract rfl rfl) (by decide) ?_   -- t19 := extract t13 0
  refine WL.val (Y.extract rfl rfl) (by decide) ?_   -- t20 := extract t13 1
  refine WL.val (Y.assign rfl) (by decide) ?_   -- t8 := assign t19
  refine WL.val (Y.assign rfl) (by decide) ?_   -- t9 := assign t20
  refine WL.nil ?_
  refine hK2 _ _ ?_; try clear hK2 K2
  refine CW.seq fun K3 hK3 => ?_
  refine CW.seq fun K4 hK4 => ?_
  refine CW.region ?_   -- region 2
  refine WL.val (Y.move rfl) (by decide) ?_   -- t21 := move t9
  refine WL.val (Y.neq rfl rfl) (by decide) ?_   -- t22 := binOp neq 24 t21 c(0:i64) 24
  refine WL.nil ?_
  refine hK4 _ _ ?_; try clear hK4 K4
  first | refine CW.condD rfl (fun ht5 => ?_) (fun ht5 => ?_) | refine CW.condND rfl (fun ht5 => ?_) (fun ht5 => ?_) | refine CW.condN rfl (fun ht5 => ?_) (fun ht5 => ?_) | refine CW.cond rfl (fun ht5 => ?_) (fun ht5 => ?_)
  · -- then
    refine CW.seq fun K6 hK6 => ?_
    refine CW.region ?_   -- region 3
    refine WL.val (Y.move rfl) (by decide) ?_   -- t23 := move t9
    refine WL.val (Y.assign rfl) (by decide) ?_   -- t6 := assign c(nilslice)
    refine WL.val (Y.assign rfl) (by decide) ?_   -- t7 := assign t23
    refine WL.nil ?_
    refine hK6 _ _ ?_; try clear hK6 K6
    refine CW.ret ⟨_, rfl, ?_⟩
    have he : ¬ wrongQ (ndsL l) (a ++ b) = 0 := by assumption
    exact ⟨_, rfl, by rw [if_neg he]; exact Own.nil, (fun k h => by simp [Value.ownBlock] at h), hE⟩
  -- else
  refine CW.skip ?_
  refine hK3 _ _ ?_; try clear hK3 K3
  refine CW.seq fun K7 hK7 => ?_
  have hq0 : wrongQ (ndsL l) (a ++ b) = 0 := Decidable.not_not.1 (by assumption)
  obtain ⟨gk, r, sb, rfl, hK⟩ := hp hq0
  have hin := wrongQ_in hq0
  have hln := ok_len hK.ok
  have hltK := hK.lt
  have hnew := hK.new
  refine CW.region ?_   -- region 4
  refine WL.val (Y.move rfl) (by decide) ?_   -- t24 := move t8
  refine WL.val (Y.move rfl) (by decide) ?_   -- t25 := move t1
  refine WL.call Try.func42 rfl rfl rfl (gmarks_any w1 _ gk r sb _ _ l a _ hK (ha0.ext hx1) (fun d hd => hin d (List.mem_append_left _ hd))) (by simp) ?_; rintro v26 w3 hR3   -- t26 := call F42(t24, t25) : 55,23
  obtain ⟨ba, rfl, hba, hIn, ⟨S3, hK⟩, hc3⟩ := hR3
  have hz3 := hc3.size
  have hE := hE.step hc3 (fun k h => by omega)
  have hltA := hIn.lt
  refine WL.val (Y.move rfl) (by decide) ?_   -- t27 := move t8
  refine WL.val (Y.move rfl) (by decide) ?_   -- t28 := move t2
  refine WL.call Try.func42 rfl rfl rfl (gmarks_any w1 _ gk r sb _ _ l b _ hK (hb0.ext hx1) (fun d hd => hin d (List.mem_append_right _ hd))) (by simp) ?_; rintro v29 w4 hR4   -- t29 := call F42(t27, t28) : 55,23
  obtain ⟨bb, rfl, hbb, hTo, ⟨S4, hK⟩, hc4⟩ := hR4
  have hz4 := hc4.size
  have hE := hE.step hc4 (fun k h => by omega)
  have hltB := hTo.lt
  have hIn := hIn.chg hc4 (fun h => by omega)
  obtain ⟨SA, hSA⟩ : ∃ S, S = markS (ndsL l) a := ⟨_, rfl⟩
  obtain ⟨TB, hTB⟩ : ∃ S, S = markS (ndsL l) b := ⟨_, rfl⟩
  have hSl : SA.length = l.length := by rw [hSA, markS, setI_length, List.length_replicate, hnl]
  have hTl : TB.length = l.length := by rw [hTB, markS, setI_length, List.length_replicate, hnl]
  rw [← hSA] at hIn ⊢
  rw [← hTB] at hTo ⊢
  refine WL.val (Y.assign rfl) (by decide) ?_   -- t10 := assign t26
  refine WL.val (Y.assign rfl) (by decide) ?_   -- t11 := assign t29
  refine WL.nil ?_
  refine hK7 _ _ ?_; try clear hK7 K7
  refine CW.seq fun K8 hK8 => ?_
  refine CW.seq fun K9 hK9 => ?_
  refine CW.region ?_   -- region 5
  refine WL.val (Y.move rfl) (by decide) ?_   -- t30 := move t10
  refine WL.val (Y.len_slice Try.underlying58 rfl) (by decide) ?_   -- t31 := call len(t30) : 58
  refine WL.val (Y.move rfl) (by decide) ?_   -- t32 := move c(0:i64)
  refine WL.nil ?_
  refine hK9 _ _ ?_; try clear hK9 K9
  refine CW.block ?_   -- block 0
  refine CW.loop (X := Nat) (fun x => [(8, .pointer (some ⟨gk, 0, none⟩)), (10, .slice (some ⟨ba, 0, none⟩) l.length l.length), (11, .slice (some ⟨bb, 0, none⟩) l.length l.length), (31, .int .i64 (l.length : Int)), (32, .int .i64 (x : Int))]) (fun x w0 => x ≤ l.length ∧ Blk w0 ba TBo (boolC (andT SA TB x)) ∧ Blk w0 bb TBo (boolC TB) ∧ Ext w w0 ∧ LookAt w1 w0 gk r sb (.slice A l.length c) l S4) (fun x => l.length - x) 0 (by repeat (first | exact Fr.le.nil | refine Fr.le.cons rfl ?_)) ⟨Nat.zero_le _, by rw [andT_zero]; exact hIn, hTo, hE, hK⟩ ?_
  intro x w5 hl5
  clear hE hK hIn hTo
  obtain ⟨hxm, hIn, hTo, hE, hK⟩ := hl5
  refine CW.seq fun K10 hK10 => ?_
  refine CW.region ?_   -- region 6
  refine WL.val (Y.lss rfl rfl) (by decide) ?_   -- t33 := binOp lss 3 t32 t31 3
  refine WL.nil ?_
  refine hK10 _ _ ?_; try clear hK10 K10
  refine CW.seq fun K11 hK11 => ?_
  first | refine CW.condD rfl (fun ht12 => ?_) (fun ht12 => ?_) | refine CW.condND rfl (fun ht12 => ?_) (fun ht12 => ?_) | refine CW.condN rfl (fun ht12 => ?_) (fun ht12 => ?_) | refine CW.cond rfl (fun ht12 => ?_) (fun ht12 => ?_)
  · -- then
    refine CW.skip ?_
    refine hK11 _ _ ?_; try clear hK11 K11
    refine CW.seq fun K13 hK13 => ?_
    refine CW.block ?_   -- block 1
    refine CW.seq fun K14 hK14 => ?_
    obtain ⟨s, hs⟩ : ∃ s, SA[x]? = some s := ⟨_, List.getElem?_eq_getElem (by omega)⟩
    obtain ⟨t, ht⟩ : ∃ t, TB[x]? = some t := ⟨_, List.getElem?_eq_getElem (by omega)⟩
    have hsi := andT_at (T := TB) (by omega) hs
    have hse := andT_set (by omega) hs ht
    refine CW.region ?_   -- region 7
    refine WL.val (Y.move rfl) (by decide) ?_   -- t34 := move t32
    refine WL.val (Y.assign rfl) (by decide) ?_   -- t12 := assign t34
    refine WL.nil ?_
    refine hK14 _ _ ?_; try clear hK14 K14
    refine CW.region ?_   -- region 8
    refine WL.val (Y.move rfl) (by decide) ?_   -- t35 := move t10
    refine WL.val (Y.move rfl) (by decide) ?_   -- t36 := move t12
    refine WL.val (Y.move rfl) (by decide) ?_   -- t37 := move t10
    refine WL.val (Y.move rfl) (by decide) ?_   -- t38 := move t12
    refine WL.val (Y.indexAddrN Try.underlying58 rfl rfl sz0_bool (by omega)) (by decide) ?_   -- t39 := indexAddr 58 t37 t38
    refine WL.val (Y.load1 Try.underlying4 rfl (hIn.bcell hsi) rfl) (by decide) ?_   -- t40 := load 4 t39
    refine WL.val (Y.move rfl) (by decide) ?_   -- t41 := move t40
    first | refine WL.casesD (d := 41) rfl (fun hg41 => ?_) (fun hg41 => ?_) | refine WL.casesND (d := 41) rfl (fun hg41 => ?_) (fun hg41 => ?_) | refine WL.cases (d := 41) rfl (fun hg41 => ?_) (fun hg41 => ?_)
    · -- t41 = T
      refine WL.gval rfl rfl (Y.move rfl) (by decide) ?_   -- t42 := move t11 [if 6=true]
      refine WL.gval rfl rfl (Y.move rfl) (by decide) ?_   -- t43 := move t12 [if 6=true]
      refine WL.gval rfl rfl (Y.indexAddrN Try.underlying58 rfl rfl sz0_bool (by omega)) (by decide) ?_   -- t44 := indexAddr 58 t42 t43 [if 6=true]
      refine WL.gval rfl rfl (Y.load1 Try.underlying4 rfl (hTo.bcell ht) rfl) (by decide) ?_   -- t45 := load 4 t44 [if 6=true]
      refine WL.val (Y.pick rfl rfl) (by decide) ?_   -- t46 := pick t41 t45 c(false)
      refine WL.val (Y.indexAddrN Try.underlying58 rfl rfl sz0_bool (by omega)) (by decide) ?_   -- t47 := indexAddr 58 t35 t36
      refine WL.storeB rfl rfl rfl sz_bool hIn hsi (fun w6 hc6 hB6_ => ?_)   -- _ := store 4 t47 t46
      have hz6 := hc6.size; have hE := hE.step hc6 (fun k h => by omega)
      have hTo := hTo.chg hc6 (fun h => by omega)
      have hK := hK.chg hc6 (fun h => by omega) (fun h => by omega) (fun h => by omega) (fun k h => by omega)
      refine WL.nil ?_
      refine hK13 _ _ ?_; try clear hK13 K13
      refine CW.region ?_   -- region 9
      refine WL.val (Y.add rfl rfl ⟨by omega, by omega⟩) (by decide) ?_   -- t48 := binOp add 3 t32 c(1:i64) 3
      refine WL.val (Y.move rfl) (by decide) ?_   -- t32 := move t48
      refine WL.nil ?_
      refine ⟨x + 1, by show l.length - (x + 1) < l.length - x; omega, (by repeat (first | exact Fr.le.nil | refine Fr.le.cons rfl ?_)), by show x + 1 ≤ l.length; omega, ?_, hTo, hE, hK⟩
      rw [← hse]
      simp_all
    · -- t41 = F
      refine WL.goff rfl rfl (by decide) ?_   -- t42 := move t11 [if 6=true]
      refine WL.goff rfl rfl (by decide) ?_   -- t43 := move t12 [if 6=true]
      refine WL.goff rfl rfl (by decide) ?_   -- t44 := indexAddr 58 t42 t43 [if 6=true]
      refine WL.goff rfl rfl (by decide) ?_   -- t45 := load 4 t44 [if 6=true]
      refine WL.val (Y.pick rfl rfl) (by decide) ?_   -- t46 := pick t41 t45 c(false)
      refine WL.val (Y.indexAddrN Try.underlying58 rfl rfl sz0_bool (by omega)) (by decide) ?_   -- t47 := indexAddr 58 t35 t36
      refine WL.storeB rfl rfl rfl sz_bool hIn hsi (fun w7 hc7 hB7_ => ?_)   -- _ := store 4 t47 t46
      have hz7 := hc7.size; have hE := hE.step hc7 (fun k h => by omega)
      have hTo := hTo.chg hc7 (fun h => by omega)
      have hK := hK.chg hc7 (fun h => by omega) (fun h => by omega) (fun h => by omega) (fun k h => by omega)
      refine WL.nil ?_
      refine hK13 _ _ ?_; try clear hK13 K13
      refine CW.region ?_   -- region 9
      refine WL.val (Y.add rfl rfl ⟨by omega, by omega⟩) (by decide) ?_   -- t48 := binOp add 3 t32 c(1:i64) 3
      refine WL.val (Y.move rfl) (by decide) ?_   -- t32 := move t48
      refine WL.nil ?_
      refine ⟨x + 1, by show l.length - (x + 1) < l.length - x; omega, (by repeat (first | exact Fr.le.nil | refine Fr.le.cons rfl ?_)), by show x + 1 ≤ l.length; omega, ?_, hTo, hE, hK⟩
      rw [← hse]
      simp_all
  -- else
  refine CW.exit ?_   -- exit 0
  refine hK8 _ _ ?_; try clear hK8 K8
  refine CW.seq fun K15 hK15 => ?_
  refine CW.region ?_   -- region 10
  refine WL.val (Y.move rfl) (by decide) ?_   -- t49 := move t8
  refine WL.val (Y.move rfl) (by decide) ?_   -- t50 := move t10
  refine WL.call Try.func36 rfl rfl rfl (gheads_any w1 _ gk r sb ba _ l _ (andB SA TB) hK (by rw [← andT_full (by omega), hSl, show l.length = x by omega]; exact hIn) (by rw [andB, List.length_zipWith]; omega)) (by simp) ?_; rintro v51 w8 hR8   -- t51 := call F36(t49, t50) : 55,58
  obtain ⟨hO, hfu, hx8⟩ := hR8
  have hz8 := hx8.size
  have hzE2 := hE.size
  have hE := hE.thenExt hx8
  refine WL.val (Y.assign rfl) (by decide) ?_   -- t6 := assign t51
  refine WL.val (Y.assign rfl) (by decide) ?_   -- t7 := assign c(0:i64)
  refine WL.nil ?_
  refine hK15 _ _ ?_; try clear hK15 K15
  refine CW.ret ⟨_, rfl, ?_⟩
  exact ⟨_, by rw [hq0], by rw [if_pos hq0, ← hSA, ← hTB]; exact hO, fun k hk => by have := hfu k hk; omega, hE⟩
end Go.Proofs.Ytecolkngbcgmcaa

/- graph.Above, walked. No condition. -/
namespace Go.Pl
open Go.Fw
def idAt (l : List Nd) (i : Nat) : Dig := ((l[i]?).map Nd.id).getD Dig.zero
def aboveL (l : List Nd) (ids : List Dig) : List Dig := sortedD ((reachL l ids).map (idAt l))
end Go.Pl
namespace Go.Proofs.Ytecolkngbcgmcaa
open Go.RowKit Go.Fw Go.Pl Go.Sort
abbrev TSn : TypeId := 22

set_option maxRecDepth 100000 in
set_option maxHeartbeats 2000000 in
theorem gAbove_any (u v0 : Value) (l : List NdV) (ids : List Dig) (w : World) (hl : Nds w u l) (hd : Sl w digC 32 v0 ids) : Calls Try.prog 33 #[u, v0] w (Ret fun v w' => ∃ hv, v = .tuple #[hv, .int .i64 (wrongQ (ndsL l) ids)] ∧ Own w' TDg 32 hv (flatD (if wrongQ (ndsL l) ids = 0 then aboveL (ndsL l) ids else [])) ∧ (∀ k, hv.ownBlock = some k → w.heap.size ≤ k) ∧ Ext w w') := by
  have hl0 := hl
  obtain ⟨A, c, rfl, hmc, hcm⟩ := hl.sl.lens
  unfold maxLen at hcm
  have hd0 := hd
  obtain ⟨A1, m1, c1, rfl, hdm, hdc, hdx, hdg⟩ := hd
  unfold maxLen at hdx
  have hnl : (ndsL l).length = l.length := by simp
  refine calls_of_CN 35 [4, 5] [(0, .slice A l.length c), (1, .slice A1 m1 c1)] Try.func33 rfl rfl rfl (by simp) args2 ?_
  have hE : Ext w w := Chg.refl
  refine CN.seq fun K1 hK1 => ?_
  refine CN.of_CW ?_
  refine CW.region ?_   -- region 0
  refine WL.box rfl rfl (by first | decide | exact Nat.le_of_ble_eq_true rfl) fun g2 w1 hx1 hg2 hB2 => ?_   -- t2 := box 22 t0
  have hlt2 := hB2.lt; have hz1 := hx1.size
  have hM2 := hB2.mem; have hz1 := hx1.size; have hE := hE.thenExt hx1
  refine WL.val (Y.assign rfl) (by first | decide | exact Nat.le_of_ble_eq_true rfl) ?_   -- t4 := assign c(nilslice)
  refine WL.val (Y.assign rfl) (by first | decide | exact Nat.le_of_ble_eq_true rfl) ?_   -- t5 := assign c(0:i64)
  refine WL.nil ?_
  refine hK1 _ _ _ ?_; try clear hK1 K1
  refine CN.seq fun K2 hK2 => ?_
  refine CN.of_CW ?_
  refine CW.region ?_   -- region 1
  refine WL.val (Y.load1 Try.underlying22 rfl hB2.mem.cell0 rfl) (by first | decide | exact Nat.le_of_ble_eq_true rfl) ?_   -- t11 := load 22 t2
  refine WL.val (Y.move rfl) (by first | decide | exact Nat.le_of_ble_eq_true rfl) ?_   -- t12 := move t1
  refine WL.st (St.buildSlice rfl (bs1_sd _ _ _)) (by first | decide | exact Nat.le_of_ble_eq_true rfl) fun v13 w2 hR2 => ?_   -- t13 := buildSlice 78 1 [(0,t12)]
  obtain ⟨g14, rfl, hg14, hB14, hx2⟩ := hR2
  have hz2 := hx2.size
  have hx12 := hx1.thenExt hx2
  have hE := hE.thenExt hx2
  have hB2 := hB2.ext hx2
  refine WL.call Try.func35 rfl rfl rfl (gbegin_any _ _ l [(.slice A1 m1 c1, ids)] _ (hl0.ext hx12) (Blk.slV (ds := [(.slice A1 m1 c1, ids)]) hB14 (by simp [maxLen])) (fun x hx => by simp at hx; subst hx; exact hd0.ext hx12)) (by simp) ?_; rintro v14 w3 hR3   -- t14 := call F35(t11, t13) : 22,78
  obtain ⟨p, rfl, hx3, hp⟩ := hR3
  have hz3 := hx3.size
  have hE := hE.thenExt hx3
  have hB2 := hB2.ext hx3
  have hfl : ([((.slice A1 m1 c1 : Value), ids)].map Prod.snd).flatten = ids := by simp
  simp only [hfl] at hp ⊢
  refine WL.val (Y.move rfl) (by first | decide | exact Nat.le_of_ble_eq_true rfl) ?_   -- t10 := move t14
  refine WL.val (Y.extract rfl rfl) (by first | decide | exact Nat.le_of_ble_eq_true rfl) ?_   -- t15 := extract t10 0
  refine WL.val (Y.extract rfl rfl) (by first | decide | exact Nat.le_of_ble_eq_true rfl) ?_   -- t16 := extract t10 1
  refine WL.val (Y.assign rfl) (by first | decide | exact Nat.le_of_ble_eq_true rfl) ?_   -- t6 := assign t15
  refine WL.val (Y.assign rfl) (by first | decide | exact Nat.le_of_ble_eq_true rfl) ?_   -- t7 := assign t16
  refine WL.nil ?_
  refine hK2 _ _ _ ?_; try clear hK2 K2
  refine CN.seq fun K3 hK3 => ?_
  refine CN.seq fun K4 hK4 => ?_
  refine CN.of_CW ?_
  refine CW.region ?_   -- region 2
  refine WL.val (Y.move rfl) (by first | decide | exact Nat.le_of_ble_eq_true rfl) ?_   -- t17 := move t7
  refine WL.val (Y.neq rfl rfl) (by first | decide | exact Nat.le_of_ble_eq_true rfl) ?_   -- t18 := binOp neq 24 t17 c(0:i64) 24
  refine WL.nil ?_
  refine hK4 _ _ _ ?_; try clear hK4 K4
  first | refine CN.condD rfl (fun ht5 => ?_) (fun ht5 => ?_) | refine CN.condND rfl (fun ht5 => ?_) (fun ht5 => ?_) | refine CN.condN rfl (fun ht5 => ?_) (fun ht5 => ?_) | refine CN.cond rfl (fun ht5 => ?_) (fun ht5 => ?_)
  · -- then
    refine CN.seq fun K6 hK6 => ?_
    refine CN.of_CW ?_
    refine CW.region ?_   -- region 3
    refine WL.val (Y.move rfl) (by first | decide | exact Nat.le_of_ble_eq_true rfl) ?_   -- t19 := move t7
    refine WL.val (Y.assign rfl) (by first | decide | exact Nat.le_of_ble_eq_true rfl) ?_   -- t4 := assign c(nilslice)
    refine WL.val (Y.assign rfl) (by first | decide | exact Nat.le_of_ble_eq_true rfl) ?_   -- t5 := assign t19
    refine WL.nil ?_
    refine hK6 _ _ _ ?_; try clear hK6 K6
    refine CN.ret ?_
    have he : ¬ wrongQ (ndsL l) ids = 0 := by assumption
    exact ⟨[], rfl, List.nodup_nil, (fun D hD => by cases hD), _, rfl, fun w_ hc => ⟨_, rfl, by rw [if_neg he]; exact Own.nil, (fun k h => by simp [Value.ownBlock] at h), hE.step hc (fun k h => by cases h)⟩⟩
  -- else
  refine CN.skip ?_
  refine hK3 _ _ _ ?_; try clear hK3 K3
  refine CN.seq fun K7 hK7 => ?_
  refine CN.of_CW ?_
  have hq0 : wrongQ (ndsL l) ids = 0 := Decidable.not_not.1 (by assumption)
  obtain ⟨gk, r, sb, rfl, hK⟩ := hp hq0
  have hin := wrongQ_in hq0
  have hln := ok_len hK.ok
  have hltK := hK.lt
  have hnew := hK.new
  refine CW.region ?_   -- region 4
  refine WL.alloc1 (z := .slice none 0 0) (by kernel_rfl) rfl (by first | decide | exact Nat.le_of_ble_eq_true rfl) fun g8 w4 hx4 hg8 hB8 => ?_   -- t8 := alloc 23
  have hlt8 := hB8.lt; have hz4 := hx4.size
  have hM8 := hB8.mem; have hz4 := hx4.size; have hE := hE.thenExt hx4; have hB2 := hB2.ext hx4
  refine WL.nil ?_
  refine hK7 _ _ _ ?_; try clear hK7 K7
  refine CN.seq fun K8 hK8 => ?_
  refine CN.seq fun K9 hK9 => ?_
  refine CN.of_CW ?_
  refine CW.region ?_   -- region 5
  refine WL.val (Y.move rfl) (by first | decide | exact Nat.le_of_ble_eq_true rfl) ?_   -- t20 := move t6
  refine WL.val (Y.move rfl) (by first | decide | exact Nat.le_of_ble_eq_true rfl) ?_   -- t21 := move t1
  refine WL.call Try.func48 rfl rfl rfl (greach_any ⟨gk, 0, none⟩ A1 m1 c1 _) (by simp) ?_; rintro v22 w5 hR5   -- t22 := call F48(t20, t21) : 55,23
  obtain ⟨b1, b2, rfl, hb1, hb2, hBb1, hBb2, hx5⟩ := hR5
  have hz5 := hx5.size
  have hE := hE.thenExt hx5
  have hK := (hK.ext hx4).ext hx5
  have hB2 := hB2.ext hx5
  have hB8 := hB8.ext hx5
  have hltb1 := hBb1.lt
  have hltb2 := hBb2.lt
  have hzK := hK.old.size
  refine WL.nil ?_
  refine hK9 _ _ _ ?_; try clear hK9 K9
  refine CN.block ?_   -- block 0
  refine CN.range (rfl) Try.func56 rfl rfl (greach1_any w2 _ gk r sb b1 b2 _ _ l ids _ hK (hd0.ext hx12) hin hBb1 hBb2 ⟨by omega, by omega, by omega, by omega⟩) (fun _ => rfl) (by first | decide | exact Nat.le_of_ble_eq_true rfl) (fun k h => by omega) (fun w1 s V hz _ i hk => by rcases hk with h | h | h | h | h | h <;> omega) (fun _ i V => Blk V g2 TSn [.slice A l.length c] ∧ (∃ v, Blk V g8 TSd [v] ∧ Own V TDg 32 v (flatD (((reachL (ndsL l) ids).take i).map (idAt (ndsL l)))) ∧ (∀ k, v.ownBlock = some k → w5.heap.size + 2 ≤ k)) ∧ Ext w V) (fun _ _ _ => False) ?_ ?_ ?_ ?_ ?_ ?_
  · intro w1_ s_ V hw_ hz_ hc_ hs_
    exact ⟨(hB2.ext hw_).chg hc_ (fun h => by omega), ⟨.slice none 0 0, (hB8.ext hw_).chg hc_ (fun h => by omega), Own.nil, (fun k h => by simp [Value.ownBlock] at h)⟩, (hE.thenExt hw_).step hc_ (fun k h => by omega)⟩
  · intro s_ i_ V V_ hi_ hc_
    obtain ⟨hB2, ⟨v, hB8, hO, hfu⟩, hE⟩ := hi_
    exact ⟨hB2.chg hc_ (fun h => by rcases h with h | h <;> omega), ⟨v, hB8.chg hc_ (fun h => by rcases h with h | h <;> omega), hO.chg hc_ (fun k hk h => by have := hfu k hk; rcases h with h | h <;> omega), hfu⟩, hE.step hc_ (fun k h => by rcases h with h | h <;> omega)⟩
  · intro s_ e_ V V_ hi_ hc_
    exact hi_.elim
  · intro s_ i_ x_ w6 hi_ hx_ hat_ hz_
    obtain ⟨hB2, ⟨v, hB8, hO, hfu⟩, hE⟩ := hi_
    have hxl := reachD_lt (List.mem_of_getElem? hx_)
    rw [hnl] at hxl
    obtain ⟨y, hy⟩ : ∃ y, l[x_]? = some y := ⟨_, List.getElem?_eq_getElem (by omega)⟩
    obtain ⟨⟨id, ps⟩, Ay, cy⟩ := y
    obtain ⟨a, rfl, hma⟩ := hl0.sl.at hy
    have hidy : idAt (ndsL l) x_ = id := by simp [idAt, hy]
    obtain ⟨B, mb, cb, rfl⟩ := hO.lens
    have hlo := hO.lt
    have hxj := (List.getElem?_eq_some_iff.1 hx_).1
    have hrl : (reachL (ndsL l) ids).length ≤ l.length := by have := reachD_le (l := ndsL l) (k := (ndsL l).length) (S := mark0 (ndsL l) ids); rw [hnl] at this; rw [reachL, hnl]; exact this
    refine CW.region ?_   -- region 6
    refine WL.val (Y.assign rfl) (by first | decide | exact Nat.le_of_ble_eq_true rfl) ?_   -- t9 := assign t23
    refine WL.nil ?_
    have hE_ : Ext w6 w6 := Chg.refl
    refine ⟨hE_, fun w7 hc_ => ?_⟩
    have hz7 := hc_.size
    have hB2 := hB2.chg hc_ (fun h => by omega)
    have hB8 := hB8.chg hc_ (fun h => by omega)
    have hO := hO.chg hc_ (fun k hk h => by have := hfu k hk; omega)
    have hE := hE.step hc_ (fun k h => by omega)
    refine CW.block ?_   -- block 1
    refine CW.held (fun wq => Chg (fun k => k = g8 ∨ (Value.slice B mb cb).ownBlock = some k) w7 wq) (by kernel_rfl) 9 rfl fun w8 hx8 => ?_
    have hS : Chg (fun k => k = g8 ∨ (Value.slice B mb cb).ownBlock = some k) w7 w8 := hx8.chg
    have hz8 := hx8.size
    have hB8 := hB8.ext hx8
    have hO := hO.ext hx8
    refine RH.take 1 (fun _ _ _ _ h => h) (by kernel_rfl) hS rfl (by kernel_rfl) (by kernel_rfl) (fun wq hq => Y.load1 Try.underlying22 rfl (hB2.chg hq (fun h => by rcases h with h | h; omega; have := hfu _ h; omega)).mem.cell0 rfl) (by first | decide | exact Nat.le_of_ble_eq_true rfl) ?_   -- t25 := load 22 t2
    refine RH.take 2 (fun _ _ _ _ h => h) (by kernel_rfl) hS rfl (by kernel_rfl) (by kernel_rfl) (fun wq hq => Y.move rfl) (by first | decide | exact Nat.le_of_ble_eq_true rfl) ?_   -- t26 := move t9
    refine RH.take 3 (fun _ _ _ _ h => h) (by kernel_rfl) hS rfl (by kernel_rfl) (by kernel_rfl) (fun wq hq => Y.indexAddrN Try.underlying22 rfl rfl sz0_apiNode (by omega)) (by first | decide | exact Nat.le_of_ble_eq_true rfl) ?_   -- t27 := indexAddr 22 t25 t26
    refine RH.take 4 (fun _ _ _ _ h => h) (by kernel_rfl) hS rfl (by kernel_rfl) (by kernel_rfl) (fun wq hq => Y.fieldAddr fo_apiNode0 rfl) (by first | decide | exact Nat.le_of_ble_eq_true rfl) ?_   -- t28 := fieldAddr 48 t27 0
    refine RH.take 5 (fun _ _ _ _ h => h) (by kernel_rfl) hS rfl (by kernel_rfl) (by kernel_rfl) (fun wq hq => Y.load Try.underlying45 rfl (hma.ext (hE.step hq (fun k h => by rcases h with h | h; omega; have := hfu k h; omega))).node0 (sz_apiDigest _) rfl) (by first | decide | exact Nat.le_of_ble_eq_true rfl) ?_   -- t29 := load 45 t28
    refine RH.two 0 6 (by kernel_rfl) ?_ ?_
    · skip
      refine RS.val rfl (Y.load1 Try.underlying23 rfl hB8.mem.cell0 rfl) (by first | decide | exact Nat.le_of_ble_eq_true rfl) ⟨hS, ?_⟩   -- t24 := load 23 t8
      refine RH.one 6 (by kernel_rfl) ?_
      refine RS.st rfl (St.buildSlice rfl (bs1_dig _)) (by first | decide | exact Nat.le_of_ble_eq_true rfl) fun v30 w9 hR9 => ?_   -- buildSlice 23 1 [(0,t29)]
      obtain ⟨g30, rfl, hg30, hB30, hx9⟩ := hR9
      have hz9 := hx9.size
      have hS := hS.thenExt hx9
      have hO := hO.ext hx9
      have hB8 := hB8.ext hx9
      refine ⟨hS, ?_⟩
      refine RH.one 7 (by kernel_rfl) ?_
      refine RS.st rfl (St.append Try.underlying23 Try.underlying23 ai_dig rfl rfl hO (Src.one hB30 (digC_length _)) one_digC (by rw [flat_length digC_length, List.length_map, List.length_take]; omega)) (by first | decide | exact Nat.le_of_ble_eq_true rfl) fun v31 w10 hR10 => ?_   -- call append(t24, t30) : 23,23
      obtain ⟨hO10, hc10, hf10⟩ := hR10
      have hz10 := hc10.size
      have hS := hS.trans hc10 (fun k _ h => .inr h)
      have hf10 : ∀ k, v31.ownBlock = some k → w5.heap.size + 2 ≤ k := by
        rcases hf10 with h | h
        · intro k hk; rw [h] at hk; exact hfu k hk
        · intro k hk; have := h k hk; omega
      have hB8 := hB8.chg hc10 (fun h => by have := hfu _ h; omega)
      obtain ⟨A10, m10, c10, rfl⟩ := hO10.lens
      refine ⟨hS, ?_⟩
      refine RH.one 8 (by kernel_rfl) ?_
      refine RS.store rfl (g := g8) (pre := []) (old := [.slice B mb cb]) (post := []) (new := [.slice A10 m10 c10]) rfl rfl rfl rfl (by kernel_rfl) (by simpa using hB8) rfl (one1 rfl) (fun w11 hc11 hB11_ => ?_)   -- store 23 t8 t31
      have hB8 : Blk w11 g8 TSd [.slice A10 m10 c10] := by simpa using hB11_
      have hO11 := hO10.chg hc11 (fun k hk h => by have := hf10 k hk; omega)
      have hS := hS.trans hc11 (fun k _ h => .inl h)
      refine ⟨hS, ?_⟩
      refine RH.done (by kernel_rfl) ?_
      have hE := hE.step hS (fun k h => by rcases h with h | h; omega; have := hfu k h; omega)
      have hB2 := hB2.chg hS (fun h => by rcases h with h | h; omega; have := hfu _ h; omega)
      refine ⟨⟨hB2, ⟨_, hB8, ?_, hf10⟩, hE⟩, hS.mono fun k _ h => ⟨fun hk => ?_, ?_, ?_⟩⟩
      · rw [take_succ hx_, List.map_append, List.map_cons, List.map_nil, hidy]
        simpa [flatD] using hO11
      · have h2 : k = g8 ∨ w5.heap.size + 2 ≤ k := by rcases h with h | h; exact .inl h; exact .inr (hfu k h)
        rcases hk with h | h | h | h | h | h <;> omega
      · rcases h with h | h
        · omega
        · have := hfu k h; omega
      · rcases h with h | h
        · omega
        · have := hfu k h; omega
    · skip
      refine RS.st rfl (St.buildSlice rfl (bs1_dig _)) (by first | decide | exact Nat.le_of_ble_eq_true rfl) fun v30 w12 hR12 => ?_   -- buildSlice 23 1 [(0,t29)]
      obtain ⟨g30, rfl, hg30, hB30, hx12⟩ := hR12
      have hz12 := hx12.size
      have hS := hS.thenExt hx12
      have hO := hO.ext hx12
      have hB8 := hB8.ext hx12
      refine ⟨hS, ?_⟩
      refine RH.one 0 (by kernel_rfl) ?_
      refine RS.val rfl (Y.load1 Try.underlying23 rfl hB8.mem.cell0 rfl) (by first | decide | exact Nat.le_of_ble_eq_true rfl) ⟨hS, ?_⟩   -- t24 := load 23 t8
      refine RH.one 7 (by kernel_rfl) ?_
      refine RS.st rfl (St.append Try.underlying23 Try.underlying23 ai_dig rfl rfl hO (Src.one hB30 (digC_length _)) one_digC (by rw [flat_length digC_length, List.length_map, List.length_take]; omega)) (by first | decide | exact Nat.le_of_ble_eq_true rfl) fun v31 w13 hR13 => ?_   -- call append(t24, t30) : 23,23
      obtain ⟨hO13, hc13, hf13⟩ := hR13
      have hz13 := hc13.size
      have hS := hS.trans hc13 (fun k _ h => .inr h)
      have hf13 : ∀ k, v31.ownBlock = some k → w5.heap.size + 2 ≤ k := by
        rcases hf13 with h | h
        · intro k hk; rw [h] at hk; exact hfu k hk
        · intro k hk; have := h k hk; omega
      have hB8 := hB8.chg hc13 (fun h => by have := hfu _ h; omega)
      obtain ⟨A10, m10, c10, rfl⟩ := hO13.lens
      refine ⟨hS, ?_⟩
      refine RH.one 8 (by kernel_rfl) ?_
      refine RS.store rfl (g := g8) (pre := []) (old := [.slice B mb cb]) (post := []) (new := [.slice A10 m10 c10]) rfl rfl rfl rfl (by kernel_rfl) (by simpa using hB8) rfl (one1 rfl) (fun w14 hc14 hB14_ => ?_)   -- store 23 t8 t31
      have hB8 : Blk w14 g8 TSd [.slice A10 m10 c10] := by simpa using hB14_
      have hO11 := hO13.chg hc14 (fun k hk h => by have := hf13 k hk; omega)
      have hS := hS.trans hc14 (fun k _ h => .inl h)
      refine ⟨hS, ?_⟩
      refine RH.done (by kernel_rfl) ?_
      have hE := hE.step hS (fun k h => by rcases h with h | h; omega; have := hfu k h; omega)
      have hB2 := hB2.chg hS (fun h => by rcases h with h | h; omega; have := hfu _ h; omega)
      refine ⟨⟨hB2, ⟨_, hB8, ?_, hf13⟩, hE⟩, hS.mono fun k _ h => ⟨fun hk => ?_, ?_, ?_⟩⟩
      · rw [take_succ hx_, List.map_append, List.map_cons, List.map_nil, hidy]
        simpa [flatD] using hO11
      · have h2 : k = g8 ∨ w5.heap.size + 2 ≤ k := by rcases h with h | h; exact .inl h; exact .inr (hfu k h)
        rcases hk with h | h | h | h | h | h <;> omega
      · rcases h with h | h
        · omega
        · have := hfu k h; omega
      · rcases h with h | h
        · omega
        · have := hfu k h; omega
  · intro s_ w15 hi_ hD_ hfin_
    obtain ⟨hB2, ⟨v, hB8, hO, hfu⟩, hE⟩ := hi_
    rw [List.take_length] at hO
    obtain ⟨B, mb, cb, rfl⟩ := hO.lens
    have hlv := hO.len digC_length (by decide)
    have hrl : (reachL (ndsL l) ids).length ≤ l.length := by have := reachD_le (l := ndsL l) (k := (ndsL l).length) (S := mark0 (ndsL l) ids); rw [hnl] at this; rw [reachL, hnl]; exact this
    refine hK8 _ _ _ ?_; try clear hK8 K8
    refine CN.seq fun K10 hK10 => ?_
    refine CN.of_CW ?_
    refine CW.region ?_   -- region 8
    refine WL.val (Y.load1 Try.underlying23 rfl hB8.mem.cell0 rfl) (by first | decide | exact Nat.le_of_ble_eq_true rfl) ?_   -- t32 := load 23 t8
    refine WL.call Try.func49 rfl rfl rfl (sort_gen cfO lt_cfO Try.func50 rfl rfl gorder_any _ _ _ _ _ hO (by rw [List.length_map]; omega)) (by simp) ?_; rintro v33 w16 hR16   -- t33 := call F49(t32, F50) : 23,77
    obtain ⟨rfl, hO16, hc16⟩ := hR16
    have hz16 := hc16.size
    have hE := hE.step hc16 (fun k h => by have := hfu k h; omega)
    have hB8 := hB8.chg hc16 (fun h => by have := hfu _ h; omega)
    have hD_ := def_chg hD_ hc16 (fun h => by have := hfu _ h; omega)
    refine WL.nil ?_
    refine hK10 _ _ _ ?_; try clear hK10 K10
    refine CN.seq fun K11 hK11 => ?_
    refine CN.of_CW ?_
    refine CW.region ?_   -- region 9
    refine WL.val (Y.load1 Try.underlying23 rfl hB8.mem.cell0 rfl) (by first | decide | exact Nat.le_of_ble_eq_true rfl) ?_   -- t34 := load 23 t8
    refine WL.val (Y.assign rfl) (by first | decide | exact Nat.le_of_ble_eq_true rfl) ?_   -- t4 := assign t34
    refine WL.val (Y.assign rfl) (by first | decide | exact Nat.le_of_ble_eq_true rfl) ?_   -- t5 := assign c(0:i64)
    refine WL.nil ?_
    refine hK11 _ _ _ ?_; try clear hK11 K11
    refine CN.ret ?_
    exact ⟨[w5.heap.size], rfl, by simp, (fun D hD => by simp at hD; subst hD; exact hD_), _, rfl, fun w_ hc => ⟨_, by rw [hq0], by rw [if_pos hq0]; exact hO16.chg hc (fun k hk h => by have := hfu k hk; simp at h; omega), fun k hk => by have := hfu k hk; omega, hE.step hc (fun k h => by simp at h; omega)⟩⟩
  · intro s_ e_ w17 hi_ hD_ hfin_ he_
    exact hi_.elim
end Go.Proofs.Ytecolkngbcgmcaa
