/- Parts of a proof: what its last text leans on. No condition. -/
import Derived.Test.YtjbeooimhoilmaaDoorK09
import Derived.Test.YtjbeooimhoilmaaDoorK12
set_option linter.unusedSimpArgs false
set_option linter.unusedVariables false
/- Several texts as one: Gi, Gj, Gk, Gl, Gm. -/
/- The heads of marked nodes, walked. No condition. -/
namespace Go.Pl
open Go.Fw
def headsD (l : List Nd) (In : List Bool) : Nat → List Bool → List Dig → List Dig
  | 0, _, out => out
  | i + 1, U, out => match l[i]? with
    | some n => headsD l In i (if In[i]? = some true ∨ U[i]? = some true then setAll l U n.ps else U) (if In[i]? = some true ∧ ¬ U[i]? = some true then out ++ [n.id] else out)
    | none => headsD l In i U out
def headsL (l : List Nd) (In : List Bool) : List Dig := sortedD (headsD l In l.length (List.replicate l.length false) [])
theorem headsD_at {l : List Nd} {In U : List Bool} {out : List Dig} {i : Nat} {n : Nd} (h : l[i]? = some n) : headsD l In (i + 1) U out = headsD l In i (if In[i]? = some true ∨ U[i]? = some true then setAll l U n.ps else U) (if In[i]? = some true ∧ ¬ U[i]? = some true then out ++ [n.id] else out) := by
  rw [headsD, h]
end Go.Pl
namespace Go.Proofs.YtjbeooimhoilmaaDoor
open Go.RowKit Go.Fw Go.Pl Go.Sort
set_option maxRecDepth 100000 in
set_option maxHeartbeats 2000000 in
theorem gheads_any (wb w : World) (gk r sb b : Nat) (u : Value) (l : List NdV) (S0 In : List Bool) (hK : LookAt wb w gk r sb u l S0) (hIn : Blk w b TBo (boolC In)) (hil : In.length = l.length) : Calls Tryd.prog 36 #[.pointer (some ⟨gk, 0, none⟩), .slice (some ⟨b, 0, none⟩) l.length l.length] w (Ret fun v w' => Own w' TDg 32 v (flatD (headsL (ndsL l) In)) ∧ (∀ k, v.ownBlock = some k → w.heap.size ≤ k) ∧ Ext w w') := by
  have hK0 := hK
  have hIn0 := hIn
  obtain ⟨A, c, rfl, hmc, hcm⟩ := hK.nds.sl.lens
  unfold maxLen at hcm
  have hln := ok_len hK.ok
  have hnl : (ndsL l).length = l.length := by simp
  have hltK := hK.lt
  have hzK := hK.old.size
  obtain ⟨bi, hbi, hbz, hbs, hbb⟩ := info_boolT
  refine calls_of_CW 83 [4] [(0, .pointer (some ⟨gk, 0, none⟩)), (1, .slice (some ⟨b, 0, none⟩) l.length l.length)] Tryd.func36 rfl rfl rfl (by simp) args2 ?_
  have hE : Ext w w := Chg.refl
  refine CW.seq fun K1 hK1 => ?_
  refine CW.region ?_
  refine WL.val (Y.assign rfl) (by decide) ?_
  refine WL.nil ?_
  refine hK1 _ _ ?_; try clear hK1 K1
  refine CW.seq fun K2 hK2 => ?_
  refine CW.region ?_
  refine WL.val (Y.move rfl) (by decide) ?_
  refine WL.val (Y.nilCheck rfl) (by decide) ?_
  refine WL.val (Y.fieldAddr fo_graphlook0 rfl) (by decide) ?_
  refine WL.val (Y.load1 Tryd.underlying56 rfl hK.blk.mem.graphlook0 rfl) (by decide) ?_
  refine WL.val (Y.len_slice Tryd.underlying56 rfl) (by decide) ?_
  refine WL.st (St.makeB Tryd.underlying71 hbi hbz hbs hbb rfl rfl (by omega)) (by decide) fun v15 w1 hR1 => ?_
  obtain ⟨ub, rfl, hub, hU, hx1⟩ := hR1
  have hz1 := hx1.size
  have hE := hE.thenExt hx1
  have hK := hK.ext hx1
  have hltu := hU.lt
  refine WL.val (Y.assign rfl) (by decide) ?_
  refine WL.nil ?_
  refine hK2 _ _ ?_; try clear hK2 K2
  refine CW.seq fun K3 hK3 => ?_
  refine CW.region ?_
  refine WL.val (Y.assign rfl) (by decide) ?_
  refine WL.nil ?_
  refine hK3 _ _ ?_; try clear hK3 K3
  refine CW.seq fun K4 hK4 => ?_
  refine CW.seq fun K5 hK5 => ?_
  refine CW.region ?_
  refine WL.val (Y.move rfl) (by decide) ?_
  refine WL.val (Y.nilCheck rfl) (by decide) ?_
  refine WL.val (Y.fieldAddr fo_graphlook0 rfl) (by decide) ?_
  refine WL.val (Y.load1 Tryd.underlying56 rfl hK.blk.mem.graphlook0 rfl) (by decide) ?_
  refine WL.val (Y.len_slice Tryd.underlying56 rfl) (by decide) ?_
  refine WL.val (Y.sub rfl rfl ⟨by omega, by omega⟩) (by decide) ?_
  refine WL.val (Y.assign rfl) (by decide) ?_
  refine WL.nil ?_
  refine hK5 _ _ ?_; try clear hK5 K5
  refine CW.block ?_
  refine CW.loop (X := Nat × List Bool × Value × List Dig) (fun x => [(0, .pointer (some ⟨gk, 0, none⟩)), (1, .slice (some ⟨b, 0, none⟩) l.length l.length), (5, .slice (some ⟨ub, 0, none⟩) l.length l.length), (6, x.2.2.1), (7, .int .i64 ((x.1 : Int) - 1))]) (fun x w0 => x.1 ≤ l.length ∧ Blk w0 ub TBo (boolC x.2.1) ∧ x.2.1.length = l.length ∧ Own w0 TDg 32 x.2.2.1 (flatD x.2.2.2) ∧ (∀ k, x.2.2.1.ownBlock = some k → w1.heap.size ≤ k) ∧ x.2.2.2.length ≤ l.length - x.1 ∧ headsD (ndsL l) In l.length (List.replicate l.length false) [] = headsD (ndsL l) In x.1 x.2.1 x.2.2.2 ∧ Ext w w0 ∧ w1.heap.size ≤ w0.heap.size) (fun x => x.1) (l.length, List.replicate l.length false, .slice none 0 0, []) (by repeat (first | exact Fr.le.nil | refine Fr.le.cons rfl ?_)) ⟨Nat.le_refl _, hU, by simp, Own.nil, (fun k h => by simp [Value.ownBlock] at h), Nat.zero_le _, rfl, hE, Nat.le_refl _⟩ ?_
  intro x w2 hl2
  clear hE hK hU
  obtain ⟨k, U, v, out⟩ := x
  dsimp only at hl2 ⊢
  obtain ⟨hkl, hU, hUl, hO, hfu, hol, hh, hE, hz2⟩ := hl2
  have hK := hK0.ext hE
  have hIn := hIn0.ext hE
  obtain ⟨B, mb, cb, rfl⟩ := hO.lens
  have hlo := hO.lt
  refine CW.seq fun K6 hK6 => ?_
  refine CW.seq fun K7 hK7 => ?_
  refine CW.region ?_
  refine WL.val (Y.move rfl) (by decide) ?_
  refine WL.val (Y.geq rfl rfl) (by decide) ?_
  refine WL.nil ?_
  refine hK7 _ _ ?_; try clear hK7 K7
  first | refine CW.condD rfl (fun ht8 => ?_) (fun ht8 => ?_) | refine CW.condND rfl (fun ht8 => ?_) (fun ht8 => ?_) | refine CW.condN rfl (fun ht8 => ?_) (fun ht8 => ?_) | refine CW.cond rfl (fun ht8 => ?_) (fun ht8 => ?_)
  · -- then
    refine CW.skip ?_
    refine hK6 _ _ ?_; try clear hK6 K6
    obtain ⟨i, rfl⟩ : ∃ i, k = i + 1 := ⟨k - 1, by omega⟩
    rw [show (((i + 1 : Nat) : Int) - 1) = (i : Int) by omega]
    obtain ⟨y, hy⟩ : ∃ y, l[i]? = some y := ⟨_, List.getElem?_eq_getElem (by omega)⟩
    obtain ⟨⟨id, ps⟩, Ay, cy⟩ := y
    have hyn : (ndsL l)[i]? = some ⟨id, ps⟩ := by simp [hy]
    obtain ⟨ci, hci⟩ : ∃ c, In[i]? = some c := ⟨_, List.getElem?_eq_getElem (by omega)⟩
    obtain ⟨cu, hcu⟩ : ∃ c, U[i]? = some c := ⟨_, List.getElem?_eq_getElem (by omega)⟩
    obtain ⟨a, rfl, hma⟩ := hK0.nds.sl.at hy
    have hps0 := hK0.nds.ps _ (List.mem_of_getElem? hy)
    dsimp only [NdV.pv] at hps0
    have hps1 := hps0
    obtain ⟨_, _, _, he_, _, hcy, hcy2, _⟩ := hps1
    cases he_
    unfold maxLen at hcy2
    refine CW.seq_to (X := Value) (fun u => [(0, .pointer (some ⟨gk, 0, none⟩)), (1, .slice (some ⟨b, 0, none⟩) l.length l.length), (5, .slice (some ⟨ub, 0, none⟩) l.length l.length), (6, u), (7, .int .i64 (i : Int))]) (fun u w0 => Blk w0 ub TBo (boolC (if ci = true ∨ cu = true then setAll (ndsL l) U ps else U)) ∧ Own w0 TDg 32 u (flatD (if ci = true ∧ ¬ cu = true then out ++ [id] else out)) ∧ (∀ k, u.ownBlock = some k → w1.heap.size ≤ k) ∧ Ext w w0 ∧ w1.heap.size ≤ w0.heap.size) ?_ ?_
    · skip
      refine CW.block ?_
      refine CW.seq_to (X := Value) (fun u => [(0, .pointer (some ⟨gk, 0, none⟩)), (1, .slice (some ⟨b, 0, none⟩) l.length l.length), (5, .slice (some ⟨ub, 0, none⟩) l.length l.length), (6, u), (7, .int .i64 (i : Int))]) (fun u w0 => Own w0 TDg 32 u (flatD (if ci = true ∧ ¬ cu = true then out ++ [id] else out)) ∧ (∀ k, u.ownBlock = some k → w1.heap.size ≤ k) ∧ Ext w w0 ∧ Blk w0 ub TBo (boolC U) ∧ w1.heap.size ≤ w0.heap.size) ?_ ?_
      · skip
        refine CW.seq_test 36 (ci = true ∧ ¬ cu = true) ?_ ?_
        · refine CW.region ?_
          refine WL.val (Y.move rfl) (by decide) ?_
          refine WL.val (Y.move rfl) (by decide) ?_
          refine WL.val (Y.indexAddrN Tryd.underlying71 rfl rfl sz0_bool (by omega)) (by decide) ?_
          refine WL.val (Y.load1 Tryd.underlying4 rfl (hIn.bcell hci) rfl) (by decide) ?_
          refine WL.val (Y.move rfl) (by decide) ?_
          first | refine WL.casesD (d := 30) rfl (fun hg30 => ?_) (fun hg30 => ?_) | refine WL.casesND (d := 30) rfl (fun hg30 => ?_) (fun hg30 => ?_) | refine WL.cases (d := 30) rfl (fun hg30 => ?_) (fun hg30 => ?_)
          · -- t30 = T
            refine WL.gval rfl rfl (Y.move rfl) (by decide) ?_
            refine WL.gval rfl rfl (Y.move rfl) (by decide) ?_
            refine WL.gval rfl rfl (Y.indexAddrN Tryd.underlying71 rfl rfl sz0_bool (by omega)) (by decide) ?_
            refine WL.gval rfl rfl (Y.load1 Tryd.underlying4 rfl (hU.bcell hcu) rfl) (by decide) ?_
            refine WL.gval rfl rfl (Y.not rfl) (by decide) ?_
            refine WL.val (Y.pick rfl rfl) (by decide) ?_
            refine WL.nil ⟨⟨_, rfl, ?_⟩, rfl, (by repeat (first | exact Fr.le.refl | refine Fr.le.push rfl ?_))⟩
            first | (simp only [*, Int.natCast_inj, Bool.not_eq_true', decide_eq_false_iff_not, decide_eq_true_eq, not_true_eq_false, not_false_eq_true, true_and, false_and, and_true, and_false, false_or, or_false, true_or, or_true, iff_true, true_iff, iff_false, false_iff]; done) | (simp_all; done) | (refine congrArg Value.bool (Bool.eq_iff_iff.2 ?_); simp_all; done) | (simp_all; omega)
          · -- t30 = F
            refine WL.goff rfl rfl (by decide) ?_
            refine WL.goff rfl rfl (by decide) ?_
            refine WL.goff rfl rfl (by decide) ?_
            refine WL.goff rfl rfl (by decide) ?_
            refine WL.goff rfl rfl (by decide) ?_
            refine WL.val (Y.pick rfl rfl) (by decide) ?_
            refine WL.nil ⟨⟨_, rfl, ?_⟩, rfl, (by repeat (first | exact Fr.le.refl | refine Fr.le.push rfl ?_))⟩
            first | (simp only [*, Int.natCast_inj, Bool.not_eq_true', decide_eq_false_iff_not, decide_eq_true_eq, not_true_eq_false, not_false_eq_true, true_and, false_and, and_true, and_false, false_or, or_false, true_or, or_true, iff_true, true_iff, iff_false, false_iff]; done) | (simp_all; done) | (refine congrArg Value.bool (Bool.eq_iff_iff.2 ?_); simp_all; done) | (simp_all; omega)
        first | refine CW.condD rfl (fun ht11 => ?_) (fun ht11 => ?_) | refine CW.condND rfl (fun ht11 => ?_) (fun ht11 => ?_) | refine CW.condN rfl (fun ht11 => ?_) (fun ht11 => ?_) | refine CW.cond rfl (fun ht11 => ?_) (fun ht11 => ?_)
        · -- then
          refine CW.region ?_
          refine WL.val (Y.move rfl) (by decide) ?_
          refine WL.val (Y.move rfl) (by decide) ?_
          refine WL.val (Y.nilCheck rfl) (by decide) ?_
          refine WL.val (Y.fieldAddr fo_graphlook0 rfl) (by decide) ?_
          refine WL.val (Y.load1 Tryd.underlying56 rfl hK.blk.mem.graphlook0 rfl) (by decide) ?_
          refine WL.val (Y.move rfl) (by decide) ?_
          refine WL.val (Y.indexAddrN Tryd.underlying56 rfl rfl sz0_apiNode (by omega)) (by decide) ?_
          refine WL.val (Y.fieldAddr fo_apiNode0 rfl) (by decide) ?_
          refine WL.val (Y.load Tryd.underlying48 rfl (hma.ext hK.old).node0 (sz_apiDigest _) rfl) (by decide) ?_
          refine WL.st (St.buildSlice rfl (bs1_dig _)) (by decide) fun v46 w3 hR3 => ?_
          obtain ⟨g46, rfl, hg46, hB46, hx3⟩ := hR3
          have hz3 := hx3.size
          have hE := hE.thenExt hx3
          refine WL.st (St.append Tryd.underlying25 Tryd.underlying25 ai_dig rfl rfl (hO.ext hx3) (Src.one hB46 (digC_length _)) one_digC (by rw [flat_length digC_length]; omega)) (by decide) fun v47 w4 hR4 => ?_
          obtain ⟨hO4, hc4, hf4⟩ := hR4
          have hz4 := hc4.size
          have hE := hE.step hc4 (fun k h => by have := hfu k h; omega)
          have hf4 : ∀ k, v47.ownBlock = some k → w1.heap.size ≤ k := by
            rcases hf4 with h | h
            · intro k hk; rw [h] at hk; exact hfu k hk
            · intro k hk; have := h k hk; omega
          have hU := (hU.ext hx3).chg hc4 (fun h => by have := hfu _ h; omega)
          refine WL.val (Y.assign rfl) (by decide) ?_
          refine WL.nil ?_
          exact ⟨v47, (by repeat (first | exact Fr.le.nil | refine Fr.le.cons rfl ?_)), by rw [if_pos (by assumption)]; simpa [flatD] using hO4, hf4, hE, hU, by omega⟩
        refine CW.skip ?_
        exact ⟨.slice B mb cb, (by repeat (first | exact Fr.le.nil | refine Fr.le.cons rfl ?_)), by rw [if_neg (by assumption)]; exact hO, hfu, hE, hU, by omega⟩
      rintro u w5 hj5
      clear hE hK hU hIn hO hfu
      obtain ⟨hO, hfu, hE, hU, hz5⟩ := hj5
      have hK := hK0.ext hE
      have hIn := hIn0.ext hE
      refine CW.seq_test 57 (ci = true ∨ cu = true) ?_ ?_
      · refine CW.region ?_
        refine WL.val (Y.move rfl) (by decide) ?_
        refine WL.val (Y.move rfl) (by decide) ?_
        refine WL.val (Y.indexAddrN Tryd.underlying71 rfl rfl sz0_bool (by omega)) (by decide) ?_
        refine WL.val (Y.load1 Tryd.underlying4 rfl (hIn.bcell hci) rfl) (by decide) ?_
        refine WL.val (Y.move rfl) (by decide) ?_
        first | refine WL.casesD (d := 52) rfl (fun hg52 => ?_) (fun hg52 => ?_) | refine WL.casesND (d := 52) rfl (fun hg52 => ?_) (fun hg52 => ?_) | refine WL.cases (d := 52) rfl (fun hg52 => ?_) (fun hg52 => ?_)
        · -- t52 = T
          refine WL.goff rfl rfl (by decide) ?_
          refine WL.goff rfl rfl (by decide) ?_
          refine WL.goff rfl rfl (by decide) ?_
          refine WL.goff rfl rfl (by decide) ?_
          refine WL.val (Y.pick rfl rfl) (by decide) ?_
          refine WL.nil ⟨⟨_, rfl, ?_⟩, rfl, (by repeat (first | exact Fr.le.refl | refine Fr.le.push rfl ?_))⟩
          first | (simp only [*, Int.natCast_inj, Bool.not_eq_true', decide_eq_false_iff_not, decide_eq_true_eq, not_true_eq_false, not_false_eq_true, true_and, false_and, and_true, and_false, false_or, or_false, true_or, or_true, iff_true, true_iff, iff_false, false_iff]; done) | (simp_all; done) | (refine congrArg Value.bool (Bool.eq_iff_iff.2 ?_); simp_all; done) | (simp_all; omega)
        · -- t52 = F
          refine WL.gval rfl rfl (Y.move rfl) (by decide) ?_
          refine WL.gval rfl rfl (Y.move rfl) (by decide) ?_
          refine WL.gval rfl rfl (Y.indexAddrN Tryd.underlying71 rfl rfl sz0_bool (by omega)) (by decide) ?_
          refine WL.gval rfl rfl (Y.load1 Tryd.underlying4 rfl (hU.bcell hcu) rfl) (by decide) ?_
          refine WL.val (Y.pick rfl rfl) (by decide) ?_
          refine WL.nil ⟨⟨_, rfl, ?_⟩, rfl, (by repeat (first | exact Fr.le.refl | refine Fr.le.push rfl ?_))⟩
          first | (simp only [*, Int.natCast_inj, Bool.not_eq_true', decide_eq_false_iff_not, decide_eq_true_eq, not_true_eq_false, not_false_eq_true, true_and, false_and, and_true, and_false, false_or, or_false, true_or, or_true, iff_true, true_iff, iff_false, false_iff]; done) | (simp_all; done) | (refine congrArg Value.bool (Bool.eq_iff_iff.2 ?_); simp_all; done) | (simp_all; omega)
      first | refine CW.condD rfl (fun ht12 => ?_) (fun ht12 => ?_) | refine CW.condND rfl (fun ht12 => ?_) (fun ht12 => ?_) | refine CW.condN rfl (fun ht12 => ?_) (fun ht12 => ?_) | refine CW.cond rfl (fun ht12 => ?_) (fun ht12 => ?_)
      · -- then
        refine CW.seq fun K13 hK13 => ?_
        refine CW.region ?_
        refine WL.val (Y.move rfl) (by decide) ?_
        refine WL.val (Y.nilCheck rfl) (by decide) ?_
        refine WL.val (Y.fieldAddr fo_graphlook0 rfl) (by decide) ?_
        refine WL.val (Y.load1 Tryd.underlying56 rfl hK.blk.mem.graphlook0 rfl) (by decide) ?_
        refine WL.val (Y.move rfl) (by decide) ?_
        refine WL.val (Y.indexAddrN Tryd.underlying56 rfl rfl sz0_apiNode (by omega)) (by decide) ?_
        refine WL.val (Y.fieldAddr fo_apiNode1 rfl) (by decide) ?_
        refine WL.val (Y.load1 Tryd.underlying25 rfl (hma.ext hK.old).node1 rfl) (by decide) ?_
        refine WL.val (Y.len_slice Tryd.underlying25 rfl) (by decide) ?_
        refine WL.val (Y.move rfl) (by decide) ?_
        refine WL.nil ?_
        refine hK13 _ _ ?_; try clear hK13 K13
        refine CW.block ?_
        refine CW.loop (X := Nat) (fun x => [(0, .pointer (some ⟨gk, 0, none⟩)), (1, .slice (some ⟨b, 0, none⟩) l.length l.length), (5, .slice (some ⟨ub, 0, none⟩) l.length l.length), (6, u), (7, .int .i64 (i : Int)), (65, .slice Ay ps.length cy), (66, .int .i64 (ps.length : Int)), (67, .int .i64 (x : Int))]) (fun x w0 => x ≤ ps.length ∧ Blk w0 ub TBo (boolC (setAll (ndsL l) U (ps.take x))) ∧ Own w0 TDg 32 u (flatD (if ci = true ∧ ¬ cu = true then out ++ [id] else out)) ∧ Ext w w0 ∧ w5.heap.size ≤ w0.heap.size) (fun x => ps.length - x) 0 (by repeat (first | exact Fr.le.nil | refine Fr.le.cons rfl ?_)) ⟨Nat.zero_le _, by simpa [setAll] using hU, hO, hE, Nat.le_refl _⟩ ?_
        intro x w6 hl6
        clear hE hK hU hO
        obtain ⟨hxp, hU, hO, hE, hz6⟩ := hl6
        have hK := hK0.ext hE
        refine CW.seq fun K14 hK14 => ?_
        refine CW.region ?_
        refine WL.val (Y.lss rfl rfl) (by decide) ?_
        refine WL.nil ?_
        refine hK14 _ _ ?_; try clear hK14 K14
        refine CW.seq fun K15 hK15 => ?_
        first | refine CW.condD rfl (fun ht16 => ?_) (fun ht16 => ?_) | refine CW.condND rfl (fun ht16 => ?_) (fun ht16 => ?_) | refine CW.condN rfl (fun ht16 => ?_) (fun ht16 => ?_) | refine CW.cond rfl (fun ht16 => ?_) (fun ht16 => ?_)
        · -- then
          refine CW.skip ?_
          refine hK15 _ _ ?_; try clear hK15 K15
          refine CW.seq fun K17 hK17 => ?_
          refine CW.block ?_
          refine CW.seq fun K18 hK18 => ?_
          obtain ⟨d, hd⟩ : ∃ d, ps[x]? = some d := ⟨_, List.getElem?_eq_getElem (by omega)⟩
          obtain ⟨a2, rfl, hma2⟩ := hps0.at hd
          have hdi := mem_idsTake (ok_par hK0.ok hyn (List.mem_of_getElem? hd))
          have hix := ixN_lt hdi
          rw [hnl] at hix
          obtain ⟨jf, hf⟩ := placed_ix hdi
          obtain ⟨cb2, hcb2⟩ : ∃ cb, (setAll (ndsL l) U (ps.take x))[ixN (ndsL l) d]? = some cb := ⟨_, List.getElem?_eq_getElem (by rw [setAll_length]; omega)⟩
          refine CW.region ?_
          refine WL.val (Y.indexAddrN Tryd.underlying25 rfl rfl sz0_apiDigest (by omega)) (by decide) ?_
          refine WL.val (Y.load Tryd.underlying48 rfl (hma2.ext hK.old) (sz_apiDigest _) rfl) (by decide) ?_
          refine as_apiDigest rfl (by simp) (by decide) fun g9 w7 hx7 hg9 hB9 => ?_
          have hlt9 := hB9.lt; have hz7 := hx7.size
          have hM9 := hB9.mem; have hz7 := hx7.size; have hE := hE.thenExt hx7; have hK := hK.ext hx7
          refine WL.nil ?_
          refine hK18 _ _ ?_; try clear hK18 K18
          refine CW.head 8 (by kernel_rfl) (by kernel_rfl) fun w8 hx8 => ?_
          skip; have hz8 := hx8.size; have hE := hE.thenExt hx8; have hK := hK.ext hx8; have hB9 := hB9.ext hx8
          refine HL.val (Y.move rfl) (by decide) ?_
          refine HL.val (Y.move rfl) (by decide) ?_
          refine HL.val (Y.nilCheck rfl) (by decide) ?_
          refine HL.val (Y.fieldAddr fo_graphlook1 rfl) (by decide) ?_
          refine HL.val (Y.load1 Tryd.underlying66 rfl hK.blk.mem.graphlook1 rfl) (by decide) ?_
          refine HL.val (Y.load Tryd.underlying48 rfl hB9.mem (sz_apiDigest _) rfl) (by decide) ?_
          refine HL.val (Y.lookupAt keyDig (fun _ => rfl) Tryd.underlying66 rfl rfl hK.map hf rfl) (by decide) ?_
          refine HL.val (Y.indexAddrN Tryd.underlying71 rfl rfl sz0_bool (by omega)) (by decide) ?_
          refine HL.nil ?_
          refine WL.storeB rfl rfl rfl sz_bool ((hU.ext hx7).ext hx8) hcb2 (fun w9 hc9 hB9_ => ?_)
          have hz9 := hc9.size; have hE := hE.step hc9 (fun k h => by omega); have hK := hK.chg hc9 (fun h => by omega) (fun h => by omega) (fun h => by omega) (fun k h => by omega); have hB9 := hB9.chg hc9 (fun h => by omega)
          have hU := hB9_
          have hO := ((hO.ext hx7).ext hx8).chg hc9 (fun k hk h => by have := hfu k hk; omega)
          refine WL.nil ?_
          refine hK17 _ _ ?_; try clear hK17 K17
          refine CW.region ?_
          refine WL.val (Y.add rfl rfl ⟨by omega, by omega⟩) (by decide) ?_
          refine WL.val (Y.move rfl) (by decide) ?_
          refine WL.nil ?_
          refine ⟨x + 1, by show ps.length - (x + 1) < ps.length - x; omega, (by repeat (first | exact Fr.le.nil | refine Fr.le.cons rfl ?_)), by show x + 1 ≤ ps.length; omega, ?_, hO, hE, by omega⟩
          show Blk _ _ _ (boolC (setAll _ _ (ps.take (x + 1))))
          rw [take_succ hd, setAll_app]
          exact hU
        refine CW.exit ?_
        exact ⟨u, (by repeat (first | exact Fr.le.nil | refine Fr.le.cons rfl ?_)), by rw [if_pos (by assumption)]; rw [List.take_of_length_le (by omega)] at hU; exact hU, hO, hfu, hE, by omega⟩
      refine CW.skip ?_
      exact ⟨u, (by repeat (first | exact Fr.le.nil | refine Fr.le.cons rfl ?_)), by rw [if_neg (by assumption)]; exact hU, hO, hfu, hE, by omega⟩
    rintro u w10 hj10
    clear hE hK hU hO hfu
    obtain ⟨hU, hO, hfu, hE, hz10⟩ := hj10
    refine CW.region ?_
    refine WL.val (Y.move rfl) (by decide) ?_
    refine WL.val (Y.sub rfl rfl ⟨by omega, by omega⟩) (by decide) ?_
    refine WL.val (Y.assign rfl) (by decide) ?_
    refine WL.nil ?_
    refine ⟨(i, (if ci = true ∨ cu = true then setAll (ndsL l) U ps else U), u, (if ci = true ∧ ¬ cu = true then out ++ [id] else out)), by show i < i + 1; omega, (by repeat (first | exact Fr.le.nil | refine Fr.le.cons rfl ?_)), by show i ≤ _; omega, hU, ?_, hO, hfu, ?_, ?_, hE, by omega⟩
    · show (ite _ _ _ : List Bool).length = _
      split <;> simp [setAll_length, hUl]
    · show (ite _ _ _ : List Dig).length ≤ l.length - i
      split <;> (try simp only [List.length_append, List.length_singleton]) <;> omega
    · show _ = headsD (ndsL l) In i _ _
      rw [hh, headsD_at hyn]
      simp only [hci, hcu, Option.some.injEq]
  refine CW.exit ?_
  refine hK4 _ _ ?_; try clear hK4 K4
  refine CW.seq fun K19 hK19 => ?_
  refine CW.region ?_
  refine WL.val (Y.move rfl) (by decide) ?_
  refine WL.call Tryd.func51 rfl rfl rfl (sort_gen cfO lt_cfO Tryd.func52 rfl rfl gorder_any _ _ _ _ _ hO (by omega)) (by simp) ?_; rintro v81 w11 hR11
  obtain ⟨rfl, hO11, hc11⟩ := hR11
  have hz11 := hc11.size
  have hE := hE.step hc11 (fun k h => by have := hfu k h; omega)
  refine WL.nil ?_
  refine hK19 _ _ ?_; try clear hK19 K19
  refine CW.seq fun K20 hK20 => ?_
  refine CW.region ?_
  refine WL.val (Y.move rfl) (by decide) ?_
  refine WL.val (Y.assign rfl) (by decide) ?_
  refine WL.nil ?_
  refine hK20 _ _ ?_; try clear hK20 K20
  refine CW.ret ⟨_, rfl, ?_⟩
  refine ⟨?_, fun k hk => by have := hfu k hk; omega, hE⟩
  have hk0 : k = 0 := by omega
  subst hk0
  rw [headsL, hnl, hh]
  exact hO11
end Go.Proofs.YtjbeooimhoilmaaDoor
/- graph.Heads, walked. No condition. -/
namespace Go.Fw
open Go.RowKit
theorem Blk.slV {w : World} {g : Nat} {e : TypeId} {ds : List (Value × List Dig)} (h : Blk w g e (ds.map Prod.fst)) (hl : ds.length ≤ maxLen) : Sl w (fun x : Value × List Dig => [x.1]) 1 (.slice (some ⟨g, 0, none⟩) ds.length ds.length) ds :=
  ⟨_, _, _, rfl, rfl, Nat.le_refl _, hl, fun i x hi => ⟨_, rfl, by
    rw [Nat.mul_one]
    exact h.mem.sub i fun j v hj => by
      cases j with
      | zero => simp at hj; subst hj; simp [hi]
      | succ j => simp at hj⟩⟩
end Go.Fw
namespace Go.Proofs.YtjbeooimhoilmaaDoor
open Go.RowKit Go.Fw Go.Pl Go.Sort
theorem info_sd : ∃ i : TypeInfo, Tryd.prog.info? TSd = some i ∧ i.zero = some (.slice none 0 0) ∧ i.size = 1 := by
  have h : (Tryd.prog.info? TSd).map (fun i => (i.zero, i.size)) = some (some (.slice none 0 0), 1) := by kernel_rfl
  cases hi : Tryd.prog.info? TSd with
  | none => simp [hi] at h
  | some i => simp [hi] at h; exact ⟨i, rfl, h.1, h.2⟩
theorem bs1_sd (A : Option Addr) (m c : Nat) (w : World) : (Instr.buildSlice 106 1 [(0, .slice A m c)].toArray).run Tryd.prog w = .ok (.slice (some ⟨w.heap.size, 0, none⟩) 1 1) (w.alloc (.cells [.slice A m c].toArray TSd)) := by
  obtain ⟨i, hi, hz, hs⟩ := info_sd
  exact run_bs1 Tryd.underlying106 hi hz (by omega) (by omega) rfl (by rw [hs]; rfl) w
theorem wrongQ_in {l : List Nd} {ids : List Dig} (h : wrongQ l ids = 0) : ∀ d ∈ ids, d ∈ idsL l := by
  intro d hd
  unfold wrongQ at h
  split at h
  · rename_i h1; exact absurd h h1
  · split at h
    · omega
    · rename_i h2
      by_cases hm : d ∈ idsL l
      · exact hm
      · exact absurd ⟨d, hd, hm⟩ h2
set_option maxRecDepth 100000 in
set_option maxHeartbeats 1000000 in
theorem gHeads_any (u v0 : Value) (l : List NdV) (ids : List Dig) (w : World) (hl : Nds w u l) (hd : Sl w digC 32 v0 ids) : Calls Tryd.prog 23 #[u, v0] w (Ret fun v w' => ∃ hv, v = .tuple #[hv, .int .i64 (wrongQ (ndsL l) ids)] ∧ Own w' TDg 32 hv (flatD (if wrongQ (ndsL l) ids = 0 then headsL (ndsL l) (mark0 (ndsL l) ids) else [])) ∧ (∀ k, hv.ownBlock = some k → w.heap.size ≤ k) ∧ Ext w w') := by
  have hl0 := hl
  obtain ⟨A, c, rfl, hmc, hcm⟩ := hl.sl.lens
  unfold maxLen at hcm
  have hd0 := hd
  obtain ⟨A1, m1, c1, rfl, hdm, hdc, hdx, hdg⟩ := hd
  unfold maxLen at hdx
  have hnl : (ndsL l).length = l.length := by simp
  obtain ⟨bi, hbi, hbz, hbs, hbb⟩ := info_boolT
  refine calls_of_CW 42 [4, 5] [(0, .slice A l.length c), (1, .slice A1 m1 c1)] Tryd.func23 rfl rfl rfl (by simp) args2 ?_
  have hE : Ext w w := Chg.refl
  refine CW.seq fun K1 hK1 => ?_
  refine CW.region ?_
  refine WL.val (Y.assign rfl) (by decide) ?_
  refine WL.val (Y.assign rfl) (by decide) ?_
  refine WL.nil ?_
  refine hK1 _ _ ?_; try clear hK1 K1
  refine CW.seq fun K2 hK2 => ?_
  refine CW.region ?_
  refine WL.val (Y.move rfl) (by decide) ?_
  refine WL.val (Y.move rfl) (by decide) ?_
  refine WL.st (St.buildSlice rfl (bs1_sd _ _ _)) (by decide) fun v14 w1 hR1 => ?_
  obtain ⟨g14, rfl, hg14, hB14, hx1⟩ := hR1
  have hz1 := hx1.size
  have hE := hE.thenExt hx1
  refine WL.call Tryd.func33 rfl rfl rfl (gbegin_any _ _ l [(.slice A1 m1 c1, ids)] _ (hl0.ext hx1) (Blk.slV (ds := [(.slice A1 m1 c1, ids)]) hB14 (by simp [maxLen])) (fun x hx => by simp at hx; subst hx; exact hd0.ext hx1)) (by simp) ?_; rintro v15 w2 hR2
  obtain ⟨p, rfl, hx2, hp⟩ := hR2
  have hz2 := hx2.size
  have hE := hE.thenExt hx2
  have hfl : ([((.slice A1 m1 c1 : Value), ids)].map Prod.snd).flatten = ids := by simp
  simp only [hfl] at hp ⊢
  refine WL.val (Y.move rfl) (by decide) ?_
  refine WL.val (Y.extract rfl rfl) (by decide) ?_
  refine WL.val (Y.extract rfl rfl) (by decide) ?_
  refine WL.val (Y.assign rfl) (by decide) ?_
  refine WL.val (Y.assign rfl) (by decide) ?_
  refine WL.nil ?_
  refine hK2 _ _ ?_; try clear hK2 K2
  refine CW.seq fun K3 hK3 => ?_
  refine CW.seq fun K4 hK4 => ?_
  refine CW.region ?_
  refine WL.val (Y.move rfl) (by decide) ?_
  refine WL.val (Y.neq rfl rfl) (by decide) ?_
  refine WL.nil ?_
  refine hK4 _ _ ?_; try clear hK4 K4
  first | refine CW.condD rfl (fun ht5 => ?_) (fun ht5 => ?_) | refine CW.condND rfl (fun ht5 => ?_) (fun ht5 => ?_) | refine CW.condN rfl (fun ht5 => ?_) (fun ht5 => ?_) | refine CW.cond rfl (fun ht5 => ?_) (fun ht5 => ?_)
  · -- then
    refine CW.seq fun K6 hK6 => ?_
    refine CW.region ?_
    refine WL.val (Y.move rfl) (by decide) ?_
    refine WL.val (Y.assign rfl) (by decide) ?_
    refine WL.val (Y.assign rfl) (by decide) ?_
    refine WL.nil ?_
    refine hK6 _ _ ?_; try clear hK6 K6
    refine CW.ret ⟨_, rfl, ?_⟩
    have he : ¬ wrongQ (ndsL l) ids = 0 := by assumption
    exact ⟨_, rfl, by rw [if_neg he]; exact Own.nil, (fun k h => by simp [Value.ownBlock] at h), hE⟩
  refine CW.skip ?_
  refine hK3 _ _ ?_; try clear hK3 K3
  refine CW.seq fun K7 hK7 => ?_
  have hq0 : wrongQ (ndsL l) ids = 0 := Decidable.not_not.1 (by assumption)
  obtain ⟨gk, r, sb, rfl, hK⟩ := hp hq0
  have hin := wrongQ_in hq0
  have hln := ok_len hK.ok
  have hltK := hK.lt
  have hnew := hK.new
  refine CW.region ?_
  refine WL.val (Y.move rfl) (by decide) ?_
  refine WL.val (Y.len_slice Tryd.underlying56 rfl) (by decide) ?_
  refine WL.st (St.makeB Tryd.underlying71 hbi hbz hbs hbb rfl rfl (by omega)) (by decide) fun v23 w3 hR3 => ?_
  obtain ⟨b, rfl, hb, hIn, hx3⟩ := hR3
  have hz3 := hx3.size
  have hE := hE.thenExt hx3
  have hK := hK.ext hx3
  have hltb := hIn.lt
  refine WL.val (Y.assign rfl) (by decide) ?_
  refine WL.nil ?_
  refine hK7 _ _ ?_; try clear hK7 K7
  refine CW.seq fun K8 hK8 => ?_
  refine CW.seq fun K9 hK9 => ?_
  refine CW.region ?_
  refine WL.val (Y.move rfl) (by decide) ?_
  refine WL.val (Y.len_slice Tryd.underlying25 rfl) (by decide) ?_
  refine WL.val (Y.move rfl) (by decide) ?_
  refine WL.nil ?_
  refine hK9 _ _ ?_; try clear hK9 K9
  refine CW.block ?_
  refine CW.loop (X := Nat) (fun x => [(6, .pointer (some ⟨gk, 0, none⟩)), (8, .slice (some ⟨b, 0, none⟩) l.length l.length), (24, .slice A1 m1 c1), (25, .int .i64 (m1 : Int)), (26, .int .i64 (x : Int))]) (fun x w0 => x ≤ m1 ∧ Blk w0 b TBo (boolC (setAll (ndsL l) (List.replicate l.length false) (ids.take x))) ∧ Ext w w0 ∧ LookAt w1 w0 gk r sb (.slice A l.length c) l (List.replicate l.length false)) (fun x => m1 - x) 0 (by repeat (first | exact Fr.le.nil | refine Fr.le.cons rfl ?_)) ⟨Nat.zero_le _, by simpa [setAll] using hIn, hE, hK⟩ ?_
  intro x w4 hl4
  clear hE hK hIn
  obtain ⟨hxm, hIn, hE, hK⟩ := hl4
  have hltK2 := hK.lt
  have hltb2 := hIn.lt
  have hzE := hE.size
  refine CW.seq fun K10 hK10 => ?_
  refine CW.region ?_
  refine WL.val (Y.lss rfl rfl) (by decide) ?_
  refine WL.nil ?_
  refine hK10 _ _ ?_; try clear hK10 K10
  refine CW.seq fun K11 hK11 => ?_
  first | refine CW.condD rfl (fun ht12 => ?_) (fun ht12 => ?_) | refine CW.condND rfl (fun ht12 => ?_) (fun ht12 => ?_) | refine CW.condN rfl (fun ht12 => ?_) (fun ht12 => ?_) | refine CW.cond rfl (fun ht12 => ?_) (fun ht12 => ?_)
  · -- then
    refine CW.skip ?_
    refine hK11 _ _ ?_; try clear hK11 K11
    refine CW.seq fun K13 hK13 => ?_
    refine CW.block ?_
    refine CW.seq fun K14 hK14 => ?_
    obtain ⟨d, hd⟩ : ∃ d, ids[x]? = some d := ⟨_, List.getElem?_eq_getElem (by omega)⟩
    obtain ⟨a, rfl, hma⟩ := hdg _ _ hd
    have hix := ixN_lt (hin d (List.mem_of_getElem? hd))
    rw [hnl] at hix
    obtain ⟨jf, hf⟩ := placed_ix (hin d (List.mem_of_getElem? hd))
    obtain ⟨cb, hcb⟩ : ∃ cb, (setAll (ndsL l) (List.replicate l.length false) (ids.take x))[ixN (ndsL l) d]? = some cb := ⟨_, List.getElem?_eq_getElem (by rw [setAll_length, List.length_replicate]; omega)⟩
    refine CW.region ?_
    refine WL.val (Y.indexAddrN Tryd.underlying25 rfl rfl sz0_apiDigest (by omega)) (by decide) ?_
    refine WL.val (Y.load Tryd.underlying48 rfl (hma.ext hE) (sz_apiDigest _) rfl) (by decide) ?_
    refine as_apiDigest rfl (by simp) (by decide) fun g10 w5 hx5 hg10 hB10 => ?_
    have hlt10 := hB10.lt; have hz5 := hx5.size
    have hM10 := hB10.mem; have hz5 := hx5.size; have hE := hE.thenExt hx5
    refine WL.nil ?_
    refine hK14 _ _ ?_; try clear hK14 K14
    refine CW.head 8 (by kernel_rfl) (by kernel_rfl) fun w6 hx6 => ?_
    skip; have hz6 := hx6.size; have hE := hE.thenExt hx6; have hB10 := hB10.ext hx6
    refine HL.val (Y.move rfl) (by decide) ?_
    refine HL.val (Y.move rfl) (by decide) ?_
    refine HL.val (Y.nilCheck rfl) (by decide) ?_
    refine HL.val (Y.fieldAddr fo_graphlook1 rfl) (by decide) ?_
    refine HL.val (Y.load1 Tryd.underlying66 rfl ((hK.ext hx5).ext hx6).blk.mem.graphlook1 rfl) (by decide) ?_
    refine HL.val (Y.load Tryd.underlying48 rfl hB10.mem (sz_apiDigest _) rfl) (by decide) ?_
    refine HL.val (Y.lookupAt keyDig (fun _ => rfl) Tryd.underlying66 rfl rfl ((hK.ext hx5).ext hx6).map hf rfl) (by decide) ?_
    refine HL.val (Y.indexAddrN Tryd.underlying71 rfl rfl sz0_bool (by omega)) (by decide) ?_
    refine HL.nil ?_
    refine WL.storeB rfl rfl rfl sz_bool ((hIn.ext hx5).ext hx6) hcb (fun w7 hc7 hB7_ => ?_)
    have hz7 := hc7.size; have hE := hE.step hc7 (fun k h => by omega); have hB10 := hB10.chg hc7 (fun h => by omega)
    have hK := ((hK.ext hx5).ext hx6).chg hc7 (fun h => by omega) (fun h => by omega) (fun h => by omega) (fun k h => by omega)
    refine WL.nil ?_
    refine hK13 _ _ ?_; try clear hK13 K13
    refine CW.region ?_
    refine WL.val (Y.add rfl rfl ⟨by omega, by omega⟩) (by decide) ?_
    refine WL.val (Y.move rfl) (by decide) ?_
    refine WL.nil ?_
    refine ⟨x + 1, by show m1 - (x + 1) < m1 - x; omega, (by repeat (first | exact Fr.le.nil | refine Fr.le.cons rfl ?_)), by show x + 1 ≤ m1; omega, ?_, hE, hK⟩
    show Blk _ _ _ (boolC (setAll _ _ (ids.take (x + 1))))
    rw [take_succ hd, setAll_app]
    exact hB7_
  refine CW.exit ?_
  refine hK8 _ _ ?_; try clear hK8 K8
  refine CW.seq fun K15 hK15 => ?_
  refine CW.region ?_
  refine WL.val (Y.move rfl) (by decide) ?_
  refine WL.val (Y.move rfl) (by decide) ?_
  refine WL.call Tryd.func36 rfl rfl rfl (gheads_any w1 _ gk r sb b _ l _ (mark0 (ndsL l) ids) hK (by rw [mark0, hnl]; rw [List.take_of_length_le (by omega)] at hIn; exact hIn) (by rw [mark0_length, hnl])) (by simp) ?_; rintro v41 w8 hR8
  obtain ⟨hO, hfu, hx8⟩ := hR8
  have hz8 := hx8.size
  have hzE2 := hE.size
  have hE := hE.thenExt hx8
  refine WL.val (Y.assign rfl) (by decide) ?_
  refine WL.val (Y.assign rfl) (by decide) ?_
  refine WL.nil ?_
  refine hK15 _ _ ?_; try clear hK15 K15
  refine CW.ret ⟨_, rfl, ?_⟩
  exact ⟨_, by rw [hq0], by rw [if_pos hq0]; exact hO, fun k hk => by have := hfu k hk; omega, hE⟩
end Go.Proofs.YtjbeooimhoilmaaDoor
/- graph.Above, Common, Within, walked. No condition. -/
namespace Go.Proofs.YtjbeooimhoilmaaDoor
open Go.RowKit Go.Fw Go.Pl Go.Sort
end Go.Proofs.YtjbeooimhoilmaaDoor
/- graph.Common, walked. No condition. -/
namespace Go.Pl
end Go.Pl
namespace Go.Proofs.YtjbeooimhoilmaaDoor
open Go.RowKit Go.Fw Go.Pl Go.Sort
end Go.Proofs.YtjbeooimhoilmaaDoor
/- graph.Above, walked. No condition. -/
namespace Go.Pl
open Go.Fw
def idAt (l : List Nd) (i : Nat) : Dig := ((l[i]?).map Nd.id).getD Dig.zero
def aboveL (l : List Nd) (ids : List Dig) : List Dig := sortedD ((reachL l ids).map (idAt l))
end Go.Pl
namespace Go.Proofs.YtjbeooimhoilmaaDoor
open Go.RowKit Go.Fw Go.Pl Go.Sort
end Go.Proofs.YtjbeooimhoilmaaDoor
