/- Parts of a proof: what its last text leans on. No condition. -/
import Derived.Test.YtjbeooimhoilmaaDoorK13
set_option linter.unusedSimpArgs false
set_option linter.unusedVariables false
/- Several texts as one: Gt, Gu, Gp, Gq, Gw, Gx. -/
/- The order of marked nodes: what it computes. No condition. -/
namespace Go.Pl
open Go.Fw
def nextB (l : List Nd) (In C : List Bool) (best : Option Nat) (i : Nat) (n : Nd) : Bool :=
  decide (In[i]? = some true) && !decide (C[i]? = some true) && (match best with | none => true | some b => lessB n.id (idAt l b)) && !(n.ps.any fun d => !bitAt C l d)
def bestD (l : List Nd) (In C : List Bool) : Nat → Option Nat
  | 0 => none
  | i + 1 => match l[i]? with
    | some n => if nextB l In C (bestD l In C i) i n = true then some i else bestD l In C i
    | none => bestD l In C i
def orderD (l : List Nd) (In : List Bool) : Nat → List Bool → List Dig → List Dig
  | 0, _, out => out
  | k + 1, C, out => match bestD l In C l.length with
    | none => out
    | some b => orderD l In k (C.set b true) (out ++ [idAt l b])
def orderL (l : List Nd) (In : List Bool) : List Dig := orderD l In (l.length + 1) (List.replicate l.length false) []
theorem bestD_at {l : List Nd} {In C : List Bool} {i : Nat} {n : Nd} (h : l[i]? = some n) : bestD l In C (i + 1) = if nextB l In C (bestD l In C i) i n = true then some i else bestD l In C i := by
  rw [bestD, h]
theorem nextB_iff {l : List Nd} {In C : List Bool} {best : Option Nat} {i : Nat} {n : Nd} : nextB l In C best i n = true ↔ In[i]? = some true ∧ ¬ C[i]? = some true ∧ (∀ b, best = some b → lessB n.id (idAt l b) = true) ∧ (n.ps.any fun d => !bitAt C l d) = false := by
  cases best <;> simp only [nextB, Bool.and_eq_true, decide_eq_true_eq, Bool.not_eq_true', decide_eq_false_iff_not, and_assoc] <;> simp
theorem bestD_some {l : List Nd} {In C : List Bool} : ∀ {i b : Nat}, bestD l In C i = some b → b < i ∧ In[b]? = some true ∧ ¬ C[b]? = some true
  | 0, b, h => by cases h
  | i + 1, b, h => by
    rw [bestD] at h
    split at h
    · split at h
      · cases h
        rename_i hn
        simp only [nextB, Bool.and_eq_true, decide_eq_true_eq, Bool.not_eq_true', decide_eq_false_iff_not] at hn
        exact ⟨Nat.lt_succ_self _, hn.1.1.1, hn.1.1.2⟩
      · have := bestD_some h; exact ⟨by omega, this.2⟩
    · have := bestD_some h; exact ⟨by omega, this.2⟩
theorem count_set : ∀ {C : List Bool} {b : Nat}, C[b]? = some false → (C.set b true).count false + 1 = C.count false
  | [], b, h => by simp at h
  | c :: C, 0, h => by simp at h; subst h; simp
  | c :: C, b + 1, h => by
    simp only [List.getElem?_cons_succ] at h
    have := count_set h
    simp only [List.set_cons_succ, List.count_cons]
    omega
theorem orderD_none {l : List Nd} {In C : List Bool} {k : Nat} {out : List Dig} (h : bestD l In C l.length = none) : orderD l In (k + 1) C out = out := by
  rw [orderD, h]
theorem orderD_some {l : List Nd} {In C : List Bool} {k b : Nat} {out : List Dig} (h : bestD l In C l.length = some b) : orderD l In (k + 1) C out = orderD l In k (C.set b true) (out ++ [idAt l b]) := by
  rw [orderD, h]
end Go.Pl
/- The order of marked nodes, walked. No condition. (NOT BUILT: fills are lacking) -/
namespace Go.Proofs.YtjbeooimhoilmaaDoor
open Go.RowKit Go.Fw Go.Pl Go.Sort
def bestI : Option Nat → Int
  | none => -1
  | some b => (b : Int)
theorem bestI_neg {o : Option Nat} : bestI o < 0 ↔ o = none := by
  cases o with
  | none => simp [bestI]
  | some b => simp [bestI]
set_option maxRecDepth 100000 in
set_option maxHeartbeats 2000000 in
theorem gorderL_any (wb w : World) (gk r sb b : Nat) (u : Value) (l : List NdV) (S0 In : List Bool) (hK : LookAt wb w gk r sb u l S0) (hIn : Blk w b TBo (boolC In)) (hil : In.length = l.length) : Calls Tryd.prog 34 #[.pointer (some ⟨gk, 0, none⟩), .slice (some ⟨b, 0, none⟩) l.length l.length] w (Ret fun v w' => Own w' TDg 32 v (flatD (orderL (ndsL l) In)) ∧ (∀ k, v.ownBlock = some k → w.heap.size ≤ k) ∧ Ext w w') := by
  have hK0 := hK
  have hIn0 := hIn
  have hltI := hIn.lt
  obtain ⟨A, c, rfl, hmc, hcm⟩ := hK.nds.sl.lens
  unfold maxLen at hcm
  have hln := ok_len hK.ok
  have hnl : (ndsL l).length = l.length := by simp
  have hltK := hK.lt
  have hzK := hK.old.size
  obtain ⟨bi, hbi, hbz, hbs, hbb⟩ := info_boolT
  obtain ⟨id, hid, hzd, _⟩ := info_apiNode
  refine calls_of_CW 79 [4] [(0, .pointer (some ⟨gk, 0, none⟩)), (1, .slice (some ⟨b, 0, none⟩) l.length l.length)] Tryd.func34 rfl rfl rfl (by simp) args2 ?_
  have hE : Ext w w := Chg.refl
  refine CW.seq fun K1 hK1 => ?_
  refine CW.region ?_
  refine WL.box rfl rfl (by decide) fun g2 w1 hx1 hg2 hB2 => ?_
  have hlt2 := hB2.lt; have hz1 := hx1.size
  have hM2 := hB2.mem; have hz1 := hx1.size; have hE := hE.thenExt hx1; have hK := hK.ext hx1
  refine WL.val (Y.assign rfl) (by decide) ?_
  refine WL.nil ?_
  refine hK1 _ _ ?_; try clear hK1 K1
  refine CW.seq fun K2 hK2 => ?_
  refine CW.region ?_
  refine WL.val (Y.load1 Tryd.underlying88 rfl hB2.mem.cell0 rfl) (by decide) ?_
  refine WL.val (Y.nilCheck rfl) (by decide) ?_
  refine WL.val (Y.fieldAddr fo_graphlook0 rfl) (by decide) ?_
  refine WL.val (Y.load1 Tryd.underlying56 rfl hK.blk.mem.graphlook0 rfl) (by decide) ?_
  refine WL.val (Y.len_slice Tryd.underlying56 rfl) (by decide) ?_
  refine WL.st (St.makeB Tryd.underlying71 hbi hbz hbs hbb rfl rfl (by omega)) (by decide) fun v15 w2 hR2 => ?_
  obtain ⟨cb, rfl, hcb, hC, hx2⟩ := hR2
  have hz2 := hx2.size
  have hE := hE.thenExt hx2
  have hK := hK.ext hx2
  have hB2 := hB2.ext hx2
  have hltc := hC.lt
  refine WL.allocStore1 (by kernel_rfl) rfl (by simp) rfl rfl (by decide) fun g5 w3 hx3 hg5 hB5 => ?_
  have hlt5 := hB5.lt; have hz3 := hx3.size
  have hM5 := hB5.mem; have hz3 := hx3.size; have hE := hE.thenExt hx3; have hK := hK.ext hx3; have hB2 := hB2.ext hx3
  refine WL.nil ?_
  refine hK2 _ _ ?_; try clear hK2 K2
  refine CW.seq fun K3 hK3 => ?_
  refine CW.region ?_
  refine WL.val (Y.assign rfl) (by decide) ?_
  refine WL.nil ?_
  refine hK3 _ _ ?_; try clear hK3 K3
  refine CW.block ?_
  refine CW.loop (X := Nat × List Bool × Value × List Dig) (fun x => [(0, .pointer (some ⟨gk, 0, none⟩)), (1, .slice (some ⟨b, 0, none⟩) l.length l.length), (2, .pointer (some ⟨g2, 0, none⟩)), (5, .pointer (some ⟨g5, 0, none⟩)), (6, x.2.2.1)]) (fun x w0 => Blk w0 g2 TPk [.pointer (some ⟨gk, 0, none⟩)] ∧ Blk w0 g5 TSb [.slice (some ⟨cb, 0, none⟩) l.length l.length] ∧ Blk w0 cb TBo (boolC x.2.1) ∧ x.2.1.length = l.length ∧ Own w0 TDg 32 x.2.2.1 (flatD x.2.2.2) ∧ (∀ k, x.2.2.1.ownBlock = some k → w3.heap.size ≤ k) ∧ x.2.2.2.length + x.2.1.count false = l.length ∧ x.2.1.count false < x.1 ∧ orderL (ndsL l) In = orderD (ndsL l) In x.1 x.2.1 x.2.2.2 ∧ Ext w w0 ∧ w3.heap.size ≤ w0.heap.size) (fun x => x.1) (l.length + 1, List.replicate l.length false, .slice none 0 0, []) (by repeat (first | exact Fr.le.nil | refine Fr.le.cons rfl ?_)) ⟨hB2, hB5, hC.ext hx3, by simp, Own.nil, (fun k h => by simp [Value.ownBlock] at h), by simp, by simp, (by rw [orderL, hnl]), hE, Nat.le_refl _⟩ ?_
  intro x w4 hl4
  clear hE hK hB2 hB5 hC
  obtain ⟨fu, C, v, out⟩ := x
  dsimp only at hl4 ⊢
  obtain ⟨hB2, hB5, hC, hCl, hO, hfu, hcl, hcf, hor, hE, hz4⟩ := hl4
  have hK := hK0.ext hE
  have hIn := hIn0.ext hE
  obtain ⟨B, mb, cb2, rfl⟩ := hO.lens
  have hlo := hO.lt
  refine CW.block ?_
  refine CW.seq fun K4 hK4 => ?_
  refine CW.region ?_
  refine WL.val (Y.assign rfl) (by decide) ?_
  refine WL.nil ?_
  refine hK4 _ _ ?_; try clear hK4 K4
  refine CW.seq fun K5 hK5 => ?_
  refine CW.seq fun K6 hK6 => ?_
  refine CW.region ?_
  refine WL.val (Y.load1 Tryd.underlying88 rfl hB2.mem.cell0 rfl) (by decide) ?_
  refine WL.val (Y.nilCheck rfl) (by decide) ?_
  refine WL.val (Y.fieldAddr fo_graphlook0 rfl) (by decide) ?_
  refine WL.val (Y.load1 Tryd.underlying56 rfl hK.blk.mem.graphlook0 rfl) (by decide) ?_
  refine WL.val (Y.len_slice Tryd.underlying56 rfl) (by decide) ?_
  refine WL.val (Y.move rfl) (by decide) ?_
  refine WL.nil ?_
  refine hK6 _ _ ?_; try clear hK6 K6
  refine CW.block ?_
  refine CW.loop (X := Nat × Option Nat) (fun x => [(0, .pointer (some ⟨gk, 0, none⟩)), (1, .slice (some ⟨b, 0, none⟩) l.length l.length), (2, .pointer (some ⟨g2, 0, none⟩)), (5, .pointer (some ⟨g5, 0, none⟩)), (6, .slice B mb cb2), (7, .int .i64 (bestI x.2)), (19, .slice A l.length c), (20, .int .i64 (l.length : Int)), (21, .int .i64 (x.1 : Int))]) (fun x w0 => x.1 ≤ l.length ∧ x.2 = bestD (ndsL l) In C x.1 ∧ Ext w4 w0) (fun x => l.length - x.1) (0, none) (by repeat (first | exact Fr.le.nil | refine Fr.le.cons rfl ?_)) ⟨Nat.zero_le _, rfl, Chg.refl⟩ ?_
  intro x w5 hl5
  obtain ⟨i, best⟩ := x
  dsimp only at hl5 ⊢
  obtain ⟨hil5, hbest, hx5⟩ := hl5
  have hz5 := hx5.size
  have hE := hE.thenExt hx5
  have hK := hK.ext hx5
  have hB2 := hB2.ext hx5
  have hB5 := hB5.ext hx5
  have hC := hC.ext hx5
  have hIn := hIn.ext hx5
  have hO := hO.ext hx5
  refine CW.seq fun K7 hK7 => ?_
  refine CW.region ?_
  refine WL.val (Y.lss rfl rfl) (by decide) ?_
  refine WL.nil ?_
  refine hK7 _ _ ?_; try clear hK7 K7
  refine CW.seq fun K8 hK8 => ?_
  first | refine CW.condD rfl (fun ht9 => ?_) (fun ht9 => ?_) | refine CW.condND rfl (fun ht9 => ?_) (fun ht9 => ?_) | refine CW.condN rfl (fun ht9 => ?_) (fun ht9 => ?_) | refine CW.cond rfl (fun ht9 => ?_) (fun ht9 => ?_)
  · -- then
    refine CW.skip ?_
    refine hK8 _ _ ?_; try clear hK8 K8
    obtain ⟨y, hy⟩ : ∃ y, l[i]? = some y := ⟨_, List.getElem?_eq_getElem (by omega)⟩
    obtain ⟨⟨id, ps⟩, Ay, cy⟩ := y
    have hyn : (ndsL l)[i]? = some ⟨id, ps⟩ := by simp [hy]
    obtain ⟨ci, hci⟩ : ∃ c, In[i]? = some c := ⟨_, List.getElem?_eq_getElem (by omega)⟩
    obtain ⟨cu, hcu⟩ : ∃ c, C[i]? = some c := ⟨_, List.getElem?_eq_getElem (by omega)⟩
    obtain ⟨a, rfl, hma⟩ := hK0.nds.sl.at hy
    refine CW.seq_to (X := Option Nat) (fun u => [(0, .pointer (some ⟨gk, 0, none⟩)), (1, .slice (some ⟨b, 0, none⟩) l.length l.length), (2, .pointer (some ⟨g2, 0, none⟩)), (5, .pointer (some ⟨g5, 0, none⟩)), (6, .slice B mb cb2), (7, .int .i64 (bestI u)), (19, .slice (some a) l.length c), (20, .int .i64 (l.length : Int)), (21, .int .i64 (i : Int))]) (fun u w0 => u = bestD (ndsL l) In C (i + 1) ∧ Ext w5 w0) ?_ ?_
    · skip
      refine CW.block ?_
      refine CW.seq fun K11 hK11 => ?_
      refine CW.region ?_
      refine WL.val (Y.move rfl) (by decide) ?_
      refine WL.val (Y.indexAddrN Tryd.underlying56 rfl rfl sz0_apiNode (by omega)) (by decide) ?_
      refine WL.val (Y.load Tryd.underlying60 rfl (hma.ext hK.old) (sz_apiNode _) rfl) (by decide) ?_
      refine WL.alloc (hid) (hzd) rfl (by decide) fun g9 w6 hx6 hg9 hB9 => ?_
      have hlt9 := hB9.lt; have hz6 := hx6.size
      have hM9 := hB9.mem; have hz6 := hx6.size; have hE := hE.thenExt hx6; have hK := hK.ext hx6; have hB2 := hB2.ext hx6; have hB5 := hB5.ext hx6
      refine WL.val (Y.assign rfl) (by decide) ?_
      refine WL.store (g := g9) (pre := []) (old := ndC NdV.zero) (post := []) (new := ndC ⟨⟨id, ps⟩, Ay, cy⟩) rfl rfl rfl rfl (sz_apiNode _) (by simpa using hB9) (by rw [ndC_length, ndC_length]) (one_ndC) (fun w7 hc7 hB7_ => ?_)
      have hz7 := hc7.size; have hE := hE.step hc7 (fun k h => by omega); have hK := hK.chg hc7 (fun h => by omega) (fun h => by omega) (fun h => by omega) (fun k h => by omega); have hB2 := hB2.chg hc7 (fun h => by omega); have hB5 := hB5.chg hc7 (fun h => by omega)
      have hB9 : Blk w7 g9 TNo (ndC ⟨⟨id, ps⟩, Ay, cy⟩) := by simpa using hB7_
      have hC := (hC.ext hx6).chg hc7 (fun h => by omega)
      have hIn := (hIn.ext hx6).chg hc7 (fun h => by omega)
      refine WL.nil ?_
      refine hK11 _ _ ?_; try clear hK11 K11
      refine CW.seq fun K12 hK12 => ?_
      refine CW.seq_testE 54 (¬ ci = true ∨ cu = true ∨ (0 ≤ bestI best ∧ ¬ lessB id (idAt (ndsL l) (best.getD 0)) = true)) ?_ ?_
      · refine CW.quiet (fun wq => Ext w7 wq) (by kernel_rfl) (by kernel_rfl) Chg.drew ?_
        refine QL.val (fun wq hq => Y.move rfl) (by decide) ?_
        refine QL.val (fun wq hq => Y.move rfl) (by decide) ?_
        refine QL.val (fun wq hq => Y.indexAddrN Tryd.underlying71 rfl rfl sz0_bool (by omega)) (by decide) ?_
        refine QL.val (fun wq hq => Y.load1 Tryd.underlying4 rfl ((hIn.ext hq).bcell hci) rfl) (by decide) ?_
        refine QL.val (fun wq hq => Y.not rfl) (by decide) ?_
        refine QL.val (fun wq hq => Y.move rfl) (by decide) ?_
        first | refine QL.casesD (d := 31) rfl (fun hg31 => ?_) (fun hg31 => ?_) | refine QL.casesND (d := 31) rfl (fun hg31 => ?_) (fun hg31 => ?_) | refine QL.cases (d := 31) rfl (fun hg31 => ?_) (fun hg31 => ?_)
        · -- t31 = T
          refine QL.goff rfl rfl (by decide) ?_
          refine QL.goff rfl rfl (by decide) ?_
          refine QL.goff rfl rfl (by decide) ?_
          refine QL.goff rfl rfl (by decide) ?_
          refine QL.val (fun wq hq => Y.pick rfl rfl) (by decide) ?_
          refine QL.val (fun wq hq => Y.move rfl) (by decide) ?_
          refine QL.goff rfl rfl (by decide) ?_
          refine QL.goff rfl rfl (by decide) ?_
          refine QL.goff rfl rfl (by decide) ?_
          refine QL.goffU rfl rfl (by decide) ?_
          refine QL.goffU rfl rfl (by decide) ?_
          refine QL.goffU rfl rfl (by decide) ?_
          refine QL.goffU rfl rfl (by decide) ?_
          refine QL.goffU rfl rfl (by decide) ?_
          refine QL.goffU rfl rfl (by decide) ?_
          refine QL.goffU rfl rfl (by decide) ?_
          refine QL.goffU rfl rfl (by decide) ?_
          refine QL.goffU rfl rfl (by decide) ?_
          refine QL.goffU rfl rfl (by decide) ?_
          refine QL.goffU rfl rfl (by decide) ?_
          refine QL.goffU rfl rfl (by decide) ?_
          refine QL.goff rfl rfl (by decide) ?_
          refine QL.val (fun wq hq => Y.pick rfl rfl) (by decide) ?_
          refine QL.nil fun wq hq => ⟨⟨_, rfl, ?_⟩, hq, (by repeat (first | exact Fr.le.refl | refine Fr.le.push rfl ?_))⟩
          first | (simp only [*, Int.natCast_inj, Bool.not_eq_true', decide_eq_false_iff_not, decide_eq_true_eq, not_true_eq_false, not_false_eq_true, true_and, false_and, and_true, and_false, false_or, or_false, true_or, or_true, iff_true, true_iff, iff_false, false_iff]; done) | (simp_all; done) | (refine congrArg Value.bool (Bool.eq_iff_iff.2 ?_); simp_all; done) | (simp_all; omega)
        · -- t31 = F
          refine QL.gval rfl rfl (fun wq hq => Y.load1 Tryd.underlying71 rfl (hB5.ext hq).mem.cell0 rfl) (by decide) ?_
          refine QL.gval rfl rfl (fun wq hq => Y.move rfl) (by decide) ?_
          refine QL.gval rfl rfl (fun wq hq => Y.indexAddrN Tryd.underlying71 rfl rfl sz0_bool (by omega)) (by decide) ?_
          refine QL.gval rfl rfl (fun wq hq => Y.load1 Tryd.underlying4 rfl ((hC.ext hq).bcell hcu) rfl) (by decide) ?_
          refine QL.val (fun wq hq => Y.pick rfl rfl) (by decide) ?_
          refine QL.val (fun wq hq => Y.move rfl) (by decide) ?_
          first | refine QL.casesD (d := 37) rfl (fun hg37 => ?_) (fun hg37 => ?_) | refine QL.casesND (d := 37) rfl (fun hg37 => ?_) (fun hg37 => ?_) | refine QL.cases (d := 37) rfl (fun hg37 => ?_) (fun hg37 => ?_)
          · -- t37 = T
            refine QL.goff rfl rfl (by decide) ?_
            refine QL.goff rfl rfl (by decide) ?_
            refine QL.goff rfl rfl (by decide) ?_
            refine QL.goffU rfl rfl (by decide) ?_
            refine QL.goffU rfl rfl (by decide) ?_
            refine QL.goffU rfl rfl (by decide) ?_
            refine QL.goffU rfl rfl (by decide) ?_
            refine QL.goffU rfl rfl (by decide) ?_
            refine QL.goffU rfl rfl (by decide) ?_
            refine QL.goffU rfl rfl (by decide) ?_
            refine QL.goffU rfl rfl (by decide) ?_
            refine QL.goffU rfl rfl (by decide) ?_
            refine QL.goffU rfl rfl (by decide) ?_
            refine QL.goffU rfl rfl (by decide) ?_
            refine QL.goffU rfl rfl (by decide) ?_
            refine QL.goff rfl rfl (by decide) ?_
            refine QL.val (fun wq hq => Y.pick rfl rfl) (by decide) ?_
            refine QL.nil fun wq hq => ⟨⟨_, rfl, ?_⟩, hq, (by repeat (first | exact Fr.le.refl | refine Fr.le.push rfl ?_))⟩
            first | (simp only [*, Int.natCast_inj, Bool.not_eq_true', decide_eq_false_iff_not, decide_eq_true_eq, not_true_eq_false, not_false_eq_true, true_and, false_and, and_true, and_false, false_or, or_false, true_or, or_true, iff_true, true_iff, iff_false, false_iff]; done) | (simp_all; done) | (refine congrArg Value.bool (Bool.eq_iff_iff.2 ?_); simp_all; done) | (simp_all; omega)
          · -- t37 = F
            refine QL.gval rfl rfl (fun wq hq => Y.move rfl) (by decide) ?_
            refine QL.gval rfl rfl (fun wq hq => Y.geq rfl rfl) (by decide) ?_
            refine QL.gval rfl rfl (fun wq hq => Y.move rfl) (by decide) ?_
            first | refine QL.casesD (d := 40) rfl (fun hg40 => ?_) (fun hg40 => ?_) | refine QL.casesND (d := 40) rfl (fun hg40 => ?_) (fun hg40 => ?_) | refine QL.cases (d := 40) rfl (fun hg40 => ?_) (fun hg40 => ?_)
            · -- t40 = T
              refine QL.gval rfl rfl (fun wq hq => Y.fieldAddr fo_apiNode0 rfl) (by decide) ?_
              refine QL.gval rfl rfl (fun wq hq => Y.load Tryd.underlying48 rfl (hB9.ext hq).mem.node0 (sz_apiDigest _) rfl) (by decide) ?_
              refine QL.gval rfl rfl (fun wq hq => Y.load1 Tryd.underlying88 rfl (hB2.ext hq).mem.cell0 rfl) (by decide) ?_
              refine QL.gval rfl rfl (fun wq hq => Y.nilCheck rfl) (by decide) ?_
              refine QL.gval rfl rfl (fun wq hq => Y.fieldAddr fo_graphlook0 rfl) (by decide) ?_
              refine QL.gval rfl rfl (fun wq hq => Y.load1 Tryd.underlying56 rfl (hK.ext hq).blk.mem.graphlook0 rfl) (by decide) ?_
              refine QL.gval rfl rfl (fun wq hq => Y.move rfl) (by decide) ?_
              obtain ⟨b0, rfl⟩ : ∃ b0, best = some b0 := by
                cases best with
                | none => exfalso; revert hg40; simp [bestI]
                | some b0 => exact ⟨b0, rfl⟩
              have hb0 := bestD_some hbest.symm
              obtain ⟨y0, hy0⟩ : ∃ y0, l[b0]? = some y0 := ⟨_, List.getElem?_eq_getElem (by omega)⟩
              obtain ⟨⟨id0, ps0⟩, A0, c0⟩ := y0
              obtain ⟨a0, ha0, hmb⟩ := hK0.nds.sl.at hy0
              cases ha0
              have hid0 : idAt (ndsL l) b0 = id0 := by simp [idAt, hy0]
              have hbi0 : 0 ≤ bestI (some b0) := Int.natCast_nonneg b0
              have hbi1 : (0 : Int) ≤ (b0 : Int) := Int.natCast_nonneg b0
              have hgd : (some b0).getD 0 = b0 := rfl
              dsimp only [bestI]
              refine QL.gval rfl rfl (fun wq hq => Y.indexAddrN Tryd.underlying56 rfl rfl sz0_apiNode (by omega)) (by decide) ?_
              refine QL.gval rfl rfl (fun wq hq => Y.fieldAddr fo_apiNode0 rfl) (by decide) ?_
              refine QL.gval rfl rfl (fun wq hq => Y.load Tryd.underlying48 rfl (hmb.ext (hK.old.thenExt hq)).node0 (sz_apiDigest _) rfl) (by decide) ?_
              refine QL.gcall rfl rfl Tryd.func47 rfl rfl rfl (fun wq hq => ret_ext (less_any _ _ _) hq) (by decide) ?_
              refine QL.gval rfl rfl (fun wq hq => Y.not rfl) (by decide) ?_
              refine QL.gval rfl rfl (fun wq hq => Y.pick rfl rfl) (by decide) ?_
              refine QL.val (fun wq hq => Y.pick rfl rfl) (by decide) ?_
              refine QL.nil fun wq hq => ⟨⟨_, rfl, ?_⟩, hq, (by repeat (first | exact Fr.le.refl | refine Fr.le.push rfl ?_))⟩
              first | (simp only [*, Int.natCast_inj, Bool.not_eq_true', decide_eq_false_iff_not, decide_eq_true_eq, not_true_eq_false, not_false_eq_true, true_and, false_and, and_true, and_false, false_or, or_false, true_or, or_true, iff_true, true_iff, iff_false, false_iff]; done) | (simp_all; done) | (refine congrArg Value.bool (Bool.eq_iff_iff.2 ?_); simp_all; done) | (simp_all; omega)
            · -- t40 = F
              refine QL.goff rfl rfl (by decide) ?_
              refine QL.goff rfl rfl (by decide) ?_
              refine QL.goff rfl rfl (by decide) ?_
              refine QL.goff rfl rfl (by decide) ?_
              refine QL.goff rfl rfl (by decide) ?_
              refine QL.goff rfl rfl (by decide) ?_
              refine QL.goff rfl rfl (by decide) ?_
              refine QL.goff rfl rfl (by decide) ?_
              refine QL.goff rfl rfl (by decide) ?_
              refine QL.goff rfl rfl (by decide) ?_
              refine QL.goff rfl rfl (by decide) ?_
              refine QL.goff rfl rfl (by decide) ?_
              refine QL.gval rfl rfl (fun wq hq => Y.pick rfl rfl) (by decide) ?_
              refine QL.val (fun wq hq => Y.pick rfl rfl) (by decide) ?_
              refine QL.nil fun wq hq => ⟨⟨_, rfl, ?_⟩, hq, (by repeat (first | exact Fr.le.refl | refine Fr.le.push rfl ?_))⟩
              first | (simp only [*, Int.natCast_inj, Bool.not_eq_true', decide_eq_false_iff_not, decide_eq_true_eq, not_true_eq_false, not_false_eq_true, true_and, false_and, and_true, and_false, false_or, or_false, true_or, or_true, iff_true, true_iff, iff_false, false_iff]; done) | (simp_all; done) | (refine congrArg Value.bool (Bool.eq_iff_iff.2 ?_); simp_all; done) | (simp_all; omega)
      intro w8 hx8; have hz8 := hx8.size; have hE := hE.thenExt hx8; have hK := hK.ext hx8; have hB2 := hB2.ext hx8; have hB5 := hB5.ext hx8; have hB9 := hB9.ext hx8
      first | refine CW.condD rfl (fun ht13 => ?_) (fun ht13 => ?_) | refine CW.condND rfl (fun ht13 => ?_) (fun ht13 => ?_) | refine CW.condN rfl (fun ht13 => ?_) (fun ht13 => ?_) | refine CW.cond rfl (fun ht13 => ?_) (fun ht13 => ?_)
      · -- then
        refine CW.exit ?_
        refine ⟨best, (by repeat (first | exact Fr.le.nil | refine Fr.le.cons rfl ?_)), ?_, (hx6.step hc7 (fun k h => by omega)).thenExt hx8⟩
        rw [bestD_at hyn, ← hbest, if_neg]
        rw [nextB_iff]
        rintro ⟨h1, h2, h3, _⟩
        rcases ht13 with h | h | ⟨h5, h6⟩
        · rw [hci] at h1; cases h1; exact h rfl
        · rw [hcu, h] at h2; exact h2 rfl
        · cases best with
          | none => exact absurd h5 (by decide)
          | some b0 => exact h6 (h3 b0 rfl)
      refine CW.skip ?_
      refine hK12 _ _ ?_; try clear hK12 K12
      refine CW.seq fun K14 hK14 => ?_
      refine CW.region ?_
      refine WL.val (Y.fieldAddr fo_apiNode1 rfl) (by decide) ?_
      refine WL.val (Y.load1 Tryd.underlying25 rfl hB9.mem.node1 rfl) (by decide) ?_
      refine WL.val (Y.makeFunc rfl) (by decide) ?_
      refine WL.call Tryd.func48 rfl rfl rfl (containsFunc_any (fun d => !bitAt C (ndsL l) d) [.pointer (some ⟨g5, 0, none⟩), .pointer (some ⟨g2, 0, none⟩)] _ ps _ Tryd.func49 rfl rfl (fun d w1 hd hx => gorder1_any wb w1 gk r sb cb g5 g2 _ l S0 C d (hK.ext hx) ((hC.ext hx8).ext hx) hCl (hB5.ext hx) (hB2.ext hx) (mem_idsTake (ok_par hK0.ok hyn hd))) ((hK.nds.ps _ (List.mem_of_getElem? hy)).ext hK.old)) (by simp) ?_; rintro v w9 ⟨rfl, hx9⟩; have hz9 := hx9.size; have hE := hE.thenExt hx9; have hK := hK.ext hx9; have hB2 := hB2.ext hx9; have hB5 := hB5.ext hx9; have hB9 := hB9.ext hx9
      refine WL.val (Y.not rfl) (by decide) ?_
      refine WL.nil ?_
      refine hK14 _ _ ?_; try clear hK14 K14
      first | refine CW.condD rfl (fun ht15 => ?_) (fun ht15 => ?_) | refine CW.condND rfl (fun ht15 => ?_) (fun ht15 => ?_) | refine CW.condN rfl (fun ht15 => ?_) (fun ht15 => ?_) | refine CW.cond rfl (fun ht15 => ?_) (fun ht15 => ?_)
      · -- then
        refine CW.region ?_
        refine WL.val (Y.move rfl) (by decide) ?_
        refine WL.val (Y.assign rfl) (by decide) ?_
        refine WL.nil ?_
        refine ⟨some i, (by repeat (first | exact Fr.le.nil | refine Fr.le.cons rfl ?_)), ?_, ((hx6.step hc7 (fun k h => by omega)).thenExt hx8).thenExt hx9⟩
        rw [bestD_at hyn, ← hbest, if_pos]
        rw [nextB_iff, hci, hcu]
        refine ⟨by simp_all, by simp_all, ?_, by simpa using ht15⟩
        intro b0 hb0
        subst hb0
        have hbi0 : 0 ≤ bestI (some b0) := Int.natCast_nonneg b0
        exact Decidable.not_not.1 fun h => (by assumption : ¬ (¬ ci = true ∨ cu = true ∨ (0 ≤ bestI (some b0) ∧ ¬ lessB id (idAt (ndsL l) ((some b0).getD 0)) = true))) (.inr (.inr ⟨hbi0, h⟩))
      refine CW.skip ?_
      refine ⟨best, (by repeat (first | exact Fr.le.nil | refine Fr.le.cons rfl ?_)), ?_, ((hx6.step hc7 (fun k h => by omega)).thenExt hx8).thenExt hx9⟩
      rw [bestD_at hyn, ← hbest, if_neg]
      rw [nextB_iff]
      rintro ⟨_, _, _, h4⟩
      simp_all
    rintro u w10 hj10
    obtain ⟨hu, hx10⟩ := hj10
    refine CW.region ?_
    refine WL.val (Y.add rfl rfl ⟨by omega, by omega⟩) (by decide) ?_
    refine WL.val (Y.move rfl) (by decide) ?_
    refine WL.nil ?_
    exact ⟨(i + 1, u), by show l.length - (i + 1) < l.length - i; omega, (by repeat (first | exact Fr.le.nil | refine Fr.le.cons rfl ?_)), by show i + 1 ≤ l.length; omega, hu, hx5.thenExt hx10⟩
  refine CW.exit ?_
  refine hK5 _ _ ?_; try clear hK5 K5
  refine CW.seq fun K16 hK16 => ?_
  refine CW.seq fun K17 hK17 => ?_
  refine CW.region ?_
  refine WL.val (Y.move rfl) (by decide) ?_
  refine WL.val (Y.lss rfl rfl) (by decide) ?_
  refine WL.nil ?_
  refine hK17 _ _ ?_; try clear hK17 K17
  first | refine CW.condD rfl (fun ht18 => ?_) (fun ht18 => ?_) | refine CW.condND rfl (fun ht18 => ?_) (fun ht18 => ?_) | refine CW.condN rfl (fun ht18 => ?_) (fun ht18 => ?_) | refine CW.cond rfl (fun ht18 => ?_) (fun ht18 => ?_)
  · -- then
    refine CW.seq fun K19 hK19 => ?_
    refine CW.region ?_
    refine WL.val (Y.move rfl) (by decide) ?_
    refine WL.val (Y.assign rfl) (by decide) ?_
    refine WL.nil ?_
    refine hK19 _ _ ?_; try clear hK19 K19
    refine CW.ret ⟨_, rfl, ?_⟩
    have hbn : best = none := bestI_neg.1 (by assumption)
    have hi : i = l.length := by omega
    obtain ⟨k, rfl⟩ : ∃ k, fu = k + 1 := ⟨fu - 1, by omega⟩
    exact ⟨by rw [hor, orderD_none (by rw [hnl, ← hi, ← hbest, hbn])]; exact hO, fun k hk => by have := hfu k hk; omega, hE⟩
  refine CW.skip ?_
  refine hK16 _ _ ?_; try clear hK16 K16
  refine CW.seq fun K20 hK20 => ?_
  obtain ⟨b0, rfl⟩ : ∃ b0, best = some b0 := by
    cases best with
    | none => exact absurd (show bestI none < 0 by decide) (by assumption)
    | some b0 => exact ⟨b0, rfl⟩
  have hi : i = l.length := by omega
  rw [hi] at hbest
  have hb0 := bestD_some hbest.symm
  obtain ⟨y0, hy0⟩ : ∃ y0, l[b0]? = some y0 := ⟨_, List.getElem?_eq_getElem (by omega)⟩
  obtain ⟨⟨id0, ps0⟩, A0, c0⟩ := y0
  obtain ⟨a, rfl, hma⟩ := hK0.nds.sl.at hy0
  have hid0 : idAt (ndsL l) b0 = id0 := by simp [idAt, hy0]
  have hcb0 : C[b0]? = some false := by
    obtain ⟨cc, hcc⟩ : ∃ cc, C[b0]? = some cc := ⟨_, List.getElem?_eq_getElem (by omega)⟩
    have := hb0.2.2
    cases cc <;> simp_all
  dsimp only [bestI]
  refine CW.region ?_
  refine WL.val (Y.load1 Tryd.underlying71 rfl hB5.mem.cell0 rfl) (by decide) ?_
  refine WL.val (Y.move rfl) (by decide) ?_
  refine WL.val (Y.indexAddrN Tryd.underlying71 rfl rfl sz0_bool (by omega)) (by decide) ?_
  refine WL.storeB rfl rfl rfl sz_bool hC hcb0 (fun w11 hc11 hB11_ => ?_)
  have hz11 := hc11.size; have hE := hE.step hc11 (fun k h => by omega); have hK := hK.chg hc11 (fun h => by omega) (fun h => by omega) (fun h => by omega) (fun k h => by omega); have hB2 := hB2.chg hc11 (fun h => by omega); have hB5 := hB5.chg hc11 (fun h => by omega)
  have hC := hB11_
  have hO := hO.chg hc11 (fun k hk h => by have := hfu k hk; omega)
  refine WL.nil ?_
  refine hK20 _ _ ?_; try clear hK20 K20
  refine CW.region ?_
  refine WL.val (Y.move rfl) (by decide) ?_
  refine WL.val (Y.load1 Tryd.underlying88 rfl hB2.mem.cell0 rfl) (by decide) ?_
  refine WL.val (Y.nilCheck rfl) (by decide) ?_
  refine WL.val (Y.fieldAddr fo_graphlook0 rfl) (by decide) ?_
  refine WL.val (Y.load1 Tryd.underlying56 rfl hK.blk.mem.graphlook0 rfl) (by decide) ?_
  refine WL.val (Y.move rfl) (by decide) ?_
  refine WL.val (Y.indexAddrN Tryd.underlying56 rfl rfl sz0_apiNode (by omega)) (by decide) ?_
  refine WL.val (Y.fieldAddr fo_apiNode0 rfl) (by decide) ?_
  refine WL.val (Y.load Tryd.underlying48 rfl (hma.ext hK.old).node0 (sz_apiDigest _) rfl) (by decide) ?_
  refine WL.st (St.buildSlice rfl (bs1_dig _)) (by decide) fun v77 w12 hR12 => ?_
  obtain ⟨g77, rfl, hg77, hB77, hx12⟩ := hR12
  have hz12 := hx12.size
  have hE := hE.thenExt hx12
  have hB2 := hB2.ext hx12
  have hB5 := hB5.ext hx12
  have hC := hC.ext hx12
  refine WL.st (St.append Tryd.underlying25 Tryd.underlying25 ai_dig rfl rfl (hO.ext hx12) (Src.one hB77 (digC_length _)) one_digC (by rw [flat_length digC_length]; omega)) (by decide) fun v78 w13 hR13 => ?_
  obtain ⟨hO13, hc13, hf13⟩ := hR13
  have hz13 := hc13.size
  have hE := hE.step hc13 (fun k h => by have := hfu k h; omega)
  have hf13 : ∀ k, v78.ownBlock = some k → w3.heap.size ≤ k := by
    rcases hf13 with h | h
    · intro k hk; rw [h] at hk; exact hfu k hk
    · intro k hk; have := h k hk; omega
  have hB2 := hB2.chg hc13 (fun h => by have := hfu _ h; omega)
  have hB5 := hB5.chg hc13 (fun h => by have := hfu _ h; omega)
  have hC := hC.chg hc13 (fun h => by have := hfu _ h; omega)
  refine WL.val (Y.assign rfl) (by decide) ?_
  refine WL.nil ?_
  have hcs := count_set hcb0
  obtain ⟨k, rfl⟩ : ∃ k, fu = k + 1 := ⟨fu - 1, by omega⟩
  refine ⟨(k, C.set b0 true, v78, out ++ [id0]), by show k < k + 1; omega, (by repeat (first | exact Fr.le.nil | refine Fr.le.cons rfl ?_)), hB2, hB5, hC, by simp [hCl], by simpa [flatD] using hO13, hf13, by show (out ++ [id0]).length + (C.set b0 true).count false = _; rw [List.length_append, List.length_singleton]; omega, by show (C.set b0 true).count false < k; omega, ?_, hE, by omega⟩
  rw [hor, orderD_some (by rw [hnl]; exact hbest.symm), hid0]
end Go.Proofs.YtjbeooimhoilmaaDoor
/- The plain law of graphs: which stands above which; marks, heads, orders as both sides make them. No condition; no program. -/
namespace Go.Pl
open Go.Fw
variable {l : List Nd}
theorem ids_at {i : Nat} {n : Nd} (h : l[i]? = some n) : (idsL l)[i]? = some n.id := by simp [idsL, h]
theorem ok_new (h : (readE l).2 = 0) {i : Nat} {n : Nd} (hi : l[i]? = some n) : n.id ∉ idsL (l.take i) := (wrong_ok (ok_at h hi)).2.2.1
theorem take_ids {j i : Nat} {n : Nd} (hj : l[j]? = some n) (h : j < i) : n.id ∈ idsL (l.take i) :=
  List.mem_map.2 ⟨n, List.mem_of_getElem? (i := j) (by rw [List.getElem?_take, if_pos h]; exact hj), rfl⟩
theorem ixN_at (h : (readE l).2 = 0) {i : Nat} {n : Nd} (hi : l[i]? = some n) : ixN l n.id = i := by
  have h1 := findI_at (ids := idsL l) (i := i) (ids_at hi) (fun j hj he => by
    obtain ⟨m, hm, hme⟩ : ∃ m, l[j]? = some m ∧ m.id = n.id := by simpa [idsL] using he
    exact ok_new h hi (hme ▸ take_ids hm hj))
  rw [findI, if_pos (List.mem_of_getElem? (ids_at hi))] at h1
  unfold ixN; omega
theorem at_ixN {d : Dig} (h : d ∈ idsL l) : ∃ n, l[ixN l d]? = some n ∧ n.id = d := by
  have hlt := ixN_lt h
  refine ⟨l[ixN l d], List.getElem?_eq_getElem hlt, ?_⟩
  have h1 : (idsL l)[(idsL l).idxOf d]'(List.idxOf_lt_length_iff.2 h) = d := List.getElem_idxOf (List.idxOf_lt_length_iff.2 h)
  simp only [idsL, List.getElem_map] at h1
  exact h1
theorem ixN_inj {a b : Dig} (ha : a ∈ idsL l) (hb : b ∈ idsL l) (h : ixN l a = ixN l b) : a = b := by
  obtain ⟨n, hn, rfl⟩ := at_ixN ha
  obtain ⟨m, hm, rfl⟩ := at_ixN hb
  rw [h, hm] at hn; cases hn; rfl
theorem mem_ids_at {i : Nat} {n : Nd} (h : l[i]? = some n) : n.id ∈ idsL l := List.mem_of_getElem? (ids_at h)
theorem ix_par (h : (readE l).2 = 0) {i : Nat} {n : Nd} (hi : l[i]? = some n) {p : Dig} (hp : p ∈ n.ps) : p ∈ idsL l ∧ ixN l p < i := by
  obtain ⟨m, hm, rfl⟩ := List.mem_map.1 (ok_par h hi hp)
  obtain ⟨j, hj⟩ := List.mem_iff_getElem?.1 hm
  rw [List.getElem?_take] at hj
  split at hj
  · exact ⟨mem_ids_at hj, by rw [ixN_at h hj]; assumption⟩
  · cases hj
inductive Ab (l : List Nd) : Dig → Dig → Prop
  | refl (d : Dig) : Ab l d d
  | step {n : Nd} {p d : Dig} : n ∈ l → p ∈ n.ps → Ab l p d → Ab l n.id d
theorem Ab.trans {a b c : Dig} (h : Ab l a b) (k : Ab l b c) : Ab l a c := by
  induction h with
  | refl d => exact k
  | step hn hp _ ih => exact .step hn hp (ih k)
theorem Ab.inv {a d : Dig} (h : Ab l a d) : a = d ∨ ∃ n ∈ l, n.id = a ∧ ∃ p ∈ n.ps, Ab l p d := by
  cases h with
  | refl d => exact .inl rfl
  | step hn hp h => exact .inr ⟨_, hn, rfl, _, hp, h⟩
theorem nd_eq (h : (readE l).2 = 0) {n : Nd} {i : Nat} {m : Nd} (hn : n ∈ l) (hm : l[i]? = some m) (e : n.id = m.id) : n = m := by
  obtain ⟨j, hj⟩ := List.mem_iff_getElem?.1 hn
  have h1 := ixN_at h hj
  rw [e, ixN_at h hm] at h1
  subst h1
  rw [hm] at hj; cases hj; rfl
theorem Ab.inv_at (h : (readE l).2 = 0) {i : Nat} {n : Nd} (hi : l[i]? = some n) {d : Dig} (k : Ab l n.id d) : n.id = d ∨ ∃ p ∈ n.ps, Ab l p d := by
  rcases k.inv with e | ⟨m, hm, e, p, hp, hpd⟩
  · exact .inl e
  · rw [nd_eq h hm hi e] at hp
    exact .inr ⟨p, hp, hpd⟩
theorem Ab.mem (h : (readE l).2 = 0) {a d : Dig} (k : Ab l a d) : a ∈ idsL l → d ∈ idsL l := by
  induction k with
  | refl d => exact id
  | step hn hp _ ih =>
    intro _
    obtain ⟨j, hj⟩ := List.mem_iff_getElem?.1 hn
    exact ih (ix_par h hj hp).1
theorem Ab.ix (h : (readE l).2 = 0) {a d : Dig} (k : Ab l a d) : a ∈ idsL l → ixN l d ≤ ixN l a ∧ (ixN l d = ixN l a → a = d) := by
  induction k with
  | refl d => exact fun _ => ⟨Nat.le_refl _, fun _ => rfl⟩
  | step hn hp _ ih =>
    intro _
    obtain ⟨j, hj⟩ := List.mem_iff_getElem?.1 hn
    have h1 := ix_par h hj hp
    have h2 := ih h1.1
    rw [ixN_at h hj]
    exact ⟨by omega, fun e => by omega⟩
theorem bit_iff {S : List Bool} {d : Dig} : bitAt S l d = true ↔ S[ixN l d]? = some true := by
  unfold bitAt
  cases S[ixN l d]? with
  | none => simp
  | some b => simp
theorem setAll_get : ∀ {ds : List Dig} {S : List Bool} {i : Nat}, (setAll l S ds)[i]? = some true ↔ S[i]? = some true ∨ (i < S.length ∧ ∃ d ∈ ds, ixN l d = i)
  | [], S, i => by simp [setAll]
  | d :: ds, S, i => by
    have h := setAll_get (ds := ds) (S := S.set (ixN l d) true) (i := i)
    rw [show setAll l S (d :: ds) = setAll l (S.set (ixN l d) true) ds from rfl, h, List.length_set]
    by_cases e : ixN l d = i
    · subst e
      by_cases hl : ixN l d < S.length
      · simp [List.getElem?_set, hl]
      · have : S[ixN l d]? = none := List.getElem?_eq_none (by omega)
        simp [List.getElem?_set, hl, this]
    · simp [List.getElem?_set, e]
theorem setAll_bit {ds : List Dig} {S : List Bool} {d : Dig} (hl : S.length = l.length) (hd : d ∈ idsL l) (hds : ∀ p ∈ ds, p ∈ idsL l) : bitAt (setAll l S ds) l d = true ↔ bitAt S l d = true ∨ d ∈ ds := by
  rw [bit_iff, bit_iff, setAll_get, hl]
  have := ixN_lt hd
  constructor
  · rintro (h | ⟨_, p, hp, e⟩)
    · exact .inl h
    · exact .inr (ixN_inj (hds p hp) hd e ▸ hp)
  · rintro (h | h)
    · exact .inl h
    · exact .inr ⟨this, d, h, rfl⟩
theorem rep_bit {k : Nat} {d : Dig} : bitAt (List.replicate k false) l d = false := by
  unfold bitAt
  rw [List.getElem?_replicate]
  split <;> rfl
theorem mark0_bit {ids : List Dig} {d : Dig} (hd : d ∈ idsL l) (hin : ∀ p ∈ ids, p ∈ idsL l) : bitAt (mark0 l ids) l d = true ↔ d ∈ ids := by
  rw [mark0, setAll_bit (by simp) hd hin, rep_bit]
  simp
theorem upd_bit (h : (readE l).2 = 0) {S : List Bool} (hl : S.length = l.length) {k : Nat} {n : Nd} (hk : l[k]? = some n) {d : Dig} (hd : d ∈ idsL l) : bitAt (upd l S k) l d = true ↔ bitAt S l d = true ∨ (bitAt S l n.id = true ∧ d ∈ n.ps) := by
  by_cases hs : S[k]? = some true
  · rw [upd_yes hk hs, setAll_bit hl hd (fun p hp => (ix_par h hk hp).1)]
    have : bitAt S l n.id = true := by rw [bit_iff, ixN_at h hk]; exact hs
    simp [this]
  · rw [upd_no hs]
    have : ¬ bitAt S l n.id = true := by rw [bit_iff, ixN_at h hk]; exact hs
    simp [this]
theorem markD_bit (h : (readE l).2 = 0) : ∀ {k : Nat} {S : List Bool}, k ≤ l.length → S.length = l.length → ∀ {d : Dig}, d ∈ idsL l → (bitAt (markD l k S) l d = true ↔ bitAt S l d = true ∨ ∃ a ∈ idsL l, ixN l a < k ∧ bitAt S l a = true ∧ Ab l a d)
  | 0, S, _, _, d, _ => by simp [markD]
  | k + 1, S, hk, hl, d, hd => by
    obtain ⟨n, hn⟩ : ∃ n, l[k]? = some n := ⟨_, List.getElem?_eq_getElem (by omega)⟩
    have hni := mem_ids_at hn
    have hnx := ixN_at h hn
    rw [markD, markD_bit h (by omega) (by rw [upd_length]; exact hl) hd, upd_bit h hl hn hd]
    constructor
    · rintro ((h1 | ⟨h1, h2⟩) | ⟨a, ha, hak, hab, had⟩)
      · exact .inl h1
      · exact .inr ⟨n.id, hni, by omega, h1, .step (List.mem_of_getElem? hn) h2 (.refl _)⟩
      · rcases (upd_bit h hl hn ha).1 hab with h1 | ⟨h1, h2⟩
        · exact .inr ⟨a, ha, by omega, h1, had⟩
        · exact .inr ⟨n.id, hni, by omega, h1, .step (List.mem_of_getElem? hn) h2 had⟩
    · rintro (h1 | ⟨a, ha, hak, hab, had⟩)
      · exact .inl (.inl h1)
      · by_cases hx : ixN l a < k
        · exact .inr ⟨a, ha, hx, (upd_bit h hl hn ha).2 (.inl hab), had⟩
        · have e : a = n.id := ixN_inj ha hni (by omega)
          subst e
          rcases had.inv_at h hn with e | ⟨p, hp, hpd⟩
          · exact .inl (.inl (e ▸ hab))
          · have hpi := ix_par h hn hp
            exact .inr ⟨p, hpi.1, hpi.2, (upd_bit h hl hn hpi.1).2 (.inr ⟨hab, hp⟩), hpd⟩
abbrev Under (l : List Nd) (ids : List Dig) (d : Dig) : Prop := ∃ a ∈ ids, Ab l a d
theorem markF_bit (h : (readE l).2 = 0) {ids : List Dig} (hin : ∀ p ∈ ids, p ∈ idsL l) {d : Dig} (hd : d ∈ idsL l) : bitAt (markF l ids) l d = true ↔ Under l ids d := by
  rw [markF, markD_bit h (Nat.le_refl _) mark0_length hd]
  constructor
  · rintro (h1 | ⟨a, ha, _, hab, had⟩)
    · exact ⟨d, (mark0_bit hd hin).1 h1, .refl _⟩
    · exact ⟨a, (mark0_bit ha hin).1 hab, had⟩
  · rintro ⟨a, ha, had⟩
    exact .inr ⟨a, hin a ha, ixN_lt (hin a ha), (mark0_bit (hin a ha) hin).2 ha, had⟩
theorem markD_length : ∀ {k : Nat} {S : List Bool}, (markD l k S).length = S.length
  | 0, _ => rfl
  | k + 1, S => by rw [markD, markD_length, upd_length]
theorem markF_length {ids : List Dig} : (markF l ids).length = l.length := by rw [markF, markD_length, mark0_length]
theorem upd_high (h : (readE l).2 = 0) {S : List Bool} {k i : Nat} (hi : k ≤ i) : ((upd l S k)[i]? = some true) ↔ (S[i]? = some true) := by
  unfold upd
  split
  · rename_i n hn
    split
    · rw [setAll_get]
      constructor
      · rintro (h1 | ⟨_, p, hp, e⟩)
        · exact h1
        · have := (ix_par h hn hp).2; omega
      · exact .inl
    · rfl
  · rfl
theorem markD_high (h : (readE l).2 = 0) : ∀ {k : Nat} {S : List Bool} {i : Nat}, k ≤ i → (((markD l k S)[i]? = some true) ↔ (S[i]? = some true))
  | 0, _, _, _ => Iff.rfl
  | k + 1, S, i, hi => by rw [markD, markD_high h (by omega), upd_high h (by omega)]
theorem reachD_iff (h : (readE l).2 = 0) : ∀ {k : Nat} {S : List Bool} {x : Nat}, x ∈ reachD l k S ↔ x < k ∧ (markD l k S)[x]? = some true
  | 0, S, x => by simp [reachD]
  | k + 1, S, x => by
    have ih := reachD_iff h (k := k) (S := upd l S k) (x := x)
    have hk : ((markD l k (upd l S k))[k]? = some true) ↔ (S[k]? = some true) := by rw [markD_high h (Nat.le_refl _), upd_high h (Nat.le_refl _)]
    rw [reachD, markD]
    split
    · rename_i hs
      rw [List.mem_cons, ih]
      constructor
      · rintro (rfl | ⟨h1, h2⟩)
        · exact ⟨by omega, hk.2 hs⟩
        · exact ⟨by omega, h2⟩
      · rintro ⟨h1, h2⟩
        by_cases e : x = k
        · exact .inl e
        · exact .inr ⟨by omega, h2⟩
    · rename_i hs
      rw [upd_no hs] at ih hk ⊢
      rw [ih]
      constructor
      · rintro ⟨h1, h2⟩; exact ⟨by omega, h2⟩
      · rintro ⟨h1, h2⟩
        refine ⟨?_, h2⟩
        by_cases e : x = k
        · subst e; exact absurd (hk.1 h2) hs
        · omega
theorem reachD_sorted : ∀ {k : Nat} {S : List Bool}, (reachD l k S).Pairwise fun a b => b < a
  | 0, _ => by simp [reachD]
  | k + 1, S => by
    rw [reachD]
    split
    · exact List.pairwise_cons.2 ⟨fun x hx => reachD_lt hx, reachD_sorted⟩
    · exact reachD_sorted
theorem setI_get : ∀ {is : List Nat} {S : List Bool} {i : Nat}, (setI S is)[i]? = some true ↔ S[i]? = some true ∨ (i < S.length ∧ i ∈ is)
  | [], S, i => by simp [setI]
  | j :: is, S, i => by
    have h := setI_get (is := is) (S := S.set j true) (i := i)
    rw [show setI S (j :: is) = setI (S.set j true) is from rfl, h, List.length_set]
    by_cases e : j = i
    · subst e
      by_cases hl : j < S.length
      · simp [List.getElem?_set, hl]
      · have : S[j]? = none := List.getElem?_eq_none (by omega)
        simp [List.getElem?_set, hl, this]
    · have e' : ¬ i = j := fun x => e x.symm
      simp [List.getElem?_set, e, e']
theorem bools_ext {S T : List Bool} (hl : S.length = T.length) (h : ∀ i : Nat, S[i]? = some true ↔ T[i]? = some true) : S = T := by
  apply List.ext_getElem?
  intro i
  have hi := h i
  by_cases hlt : i < S.length
  · rw [List.getElem?_eq_getElem hlt, List.getElem?_eq_getElem (by omega)] at hi ⊢
    simp only [Option.some.injEq] at hi ⊢
    exact Bool.eq_iff_iff.2 hi
  · rw [List.getElem?_eq_none (by omega), List.getElem?_eq_none (by omega)]
theorem markS_eq (h : (readE l).2 = 0) {ids : List Dig} : markS l ids = markF l ids := by
  refine bools_ext (by rw [markS, setI_length, List.length_replicate, markF_length]) fun i => ?_
  rw [markS, setI_get, reachL, reachD_iff h, List.length_replicate]
  constructor
  · rintro (h1 | h1)
    · rw [List.getElem?_replicate] at h1; split at h1 <;> simp at h1
    · exact h1.2.2
  · intro h1
    have hlt : i < l.length := by
      have := (List.getElem?_eq_some_iff.1 h1).1
      rwa [markF_length] at this
    exact .inr ⟨hlt, hlt, h1⟩
theorem markS_bit (h : (readE l).2 = 0) {ids : List Dig} (hin : ∀ p ∈ ids, p ∈ idsL l) {d : Dig} (hd : d ∈ idsL l) : bitAt (markS l ids) l d = true ↔ Under l ids d := by
  rw [markS_eq h, markF_bit h hin hd]
theorem idAt_at {i : Nat} {n : Nd} (h : l[i]? = some n) : idAt l i = n.id := by simp [idAt, h]
theorem idAt_ix {d : Dig} (h : d ∈ idsL l) : idAt l (ixN l d) = d := by
  obtain ⟨n, hn, e⟩ := at_ixN h
  rw [idAt_at hn, e]
theorem reach_nodup (h : (readE l).2 = 0) {ids : List Dig} : ((reachL l ids).map (idAt l)).Nodup := by
  unfold List.Nodup
  rw [List.pairwise_map]
  refine List.Pairwise.imp_of_mem ?_ (reachD_sorted (l := l) (k := l.length) (S := mark0 l ids))
  intro a b ha hb hlt e
  obtain ⟨n, hn⟩ : ∃ n, l[a]? = some n := ⟨_, List.getElem?_eq_getElem (reachD_lt ha)⟩
  obtain ⟨m, hm⟩ : ∃ m, l[b]? = some m := ⟨_, List.getElem?_eq_getElem (reachD_lt hb)⟩
  rw [idAt_at hn, idAt_at hm] at e
  have h1 := ixN_at h hn
  have h2 := ixN_at h hm
  rw [e] at h1
  omega
theorem above_up (h : (readE l).2 = 0) {ids : List Dig} : Up (aboveL l ids) := sortedD_up (reach_nodup h)
theorem above_mem (h : (readE l).2 = 0) {ids : List Dig} (hin : ∀ p ∈ ids, p ∈ idsL l) {d : Dig} : d ∈ aboveL l ids ↔ Under l ids d := by
  rw [aboveL, sortedD_mem, List.mem_map]
  constructor
  · rintro ⟨i, hi, rfl⟩
    obtain ⟨h1, h2⟩ := (reachD_iff h).1 hi
    obtain ⟨n, hn⟩ : ∃ n, l[i]? = some n := ⟨_, List.getElem?_eq_getElem h1⟩
    rw [idAt_at hn]
    refine (markF_bit h hin (mem_ids_at hn)).1 ?_
    rw [bit_iff, ixN_at h hn]; exact h2
  · rintro ⟨a, ha, had⟩
    have hd := had.mem h (hin a ha)
    refine ⟨ixN l d, (reachD_iff h).2 ⟨ixN_lt hd, ?_⟩, idAt_ix hd⟩
    exact bit_iff.1 ((markF_bit h hin hd).2 ⟨a, ha, had⟩)
theorem under_ids (h : (readE l).2 = 0) {ids : List Dig} (hin : ∀ p ∈ ids, p ∈ idsL l) {d : Dig} (hu : Under l ids d) : d ∈ idsL l := let ⟨a, ha, had⟩ := hu; had.mem h (hin a ha)
theorem headsD_mem (h : (readE l).2 = 0) {In : List Bool} : ∀ {k : Nat} {U : List Bool} {out : List Dig}, k ≤ l.length → U.length = l.length → ∀ {d : Dig}, (d ∈ headsD l In k U out ↔ d ∈ out ∨ (d ∈ idsL l ∧ ixN l d < k ∧ bitAt In l d = true ∧ ¬ bitAt U l d = true ∧ ∀ e ∈ idsL l, ixN l e < k → (bitAt In l e = true ∨ bitAt U l e = true) → Ab l e d → e = d))
  | 0, U, out, _, _, d => by simp [headsD]
  | k + 1, U, out, hk, hl, d => by
    obtain ⟨n, hn⟩ : ∃ n, l[k]? = some n := ⟨_, List.getElem?_eq_getElem (by omega)⟩
    have hni := mem_ids_at hn
    have hnx := ixN_at h hn
    have bI : In[k]? = some true ↔ bitAt In l n.id = true := by rw [bit_iff, hnx]
    have bU : U[k]? = some true ↔ bitAt U l n.id = true := by rw [bit_iff, hnx]
    have hU : ∀ {x : Dig}, x ∈ idsL l → (bitAt (if In[k]? = some true ∨ U[k]? = some true then setAll l U n.ps else U) l x = true ↔ bitAt U l x = true ∨ ((bitAt In l n.id = true ∨ bitAt U l n.id = true) ∧ x ∈ n.ps)) := by
      intro x hx
      by_cases hc : In[k]? = some true ∨ U[k]? = some true
      · have hc' : bitAt In l n.id = true ∨ bitAt U l n.id = true := hc.imp bI.1 bU.1
        rw [if_pos hc, setAll_bit hl hx (fun p hp => (ix_par h hn hp).1)]
        exact ⟨fun x => x.imp id fun y => ⟨hc', y⟩, fun x => x.imp id fun y => y.2⟩
      · have hc' : ¬ (bitAt In l n.id = true ∨ bitAt U l n.id = true) := fun x => hc (x.imp bI.2 bU.2)
        rw [if_neg hc]
        exact ⟨.inl, fun x => x.elim id fun y => absurd y.1 hc'⟩
    rw [headsD_at hn, headsD_mem h (by omega) (by split <;> simp [setAll_length, hl])]
    have hO : ∀ {x : Dig}, (x ∈ (if In[k]? = some true ∧ ¬ U[k]? = some true then out ++ [n.id] else out)) ↔ x ∈ out ∨ (x = n.id ∧ bitAt In l n.id = true ∧ ¬ bitAt U l n.id = true) := by
      intro x
      by_cases hc : In[k]? = some true ∧ ¬ U[k]? = some true
      · rw [if_pos hc, List.mem_append, List.mem_singleton]
        exact ⟨fun y => y.imp id fun z => ⟨z, bI.1 hc.1, fun q => hc.2 (bU.2 q)⟩, fun y => y.imp id fun z => z.1⟩
      · rw [if_neg hc]
        exact ⟨.inl, fun y => y.elim id fun z => absurd ⟨bI.2 z.2.1, fun q => z.2.2 (bU.1 q)⟩ hc⟩
    rw [hO]
    constructor
    · rintro ((h1 | ⟨rfl, h2, h3⟩) | ⟨hd, hdk, hdI, hdU, hall⟩)
      · exact .inl h1
      · refine .inr ⟨hni, by omega, h2, h3, fun e he hek _ hab => ?_⟩
        have := hab.ix h he
        exact this.2 (by omega)
      · have hdU' : ¬ (bitAt U l d = true ∨ ((bitAt In l n.id = true ∨ bitAt U l n.id = true) ∧ d ∈ n.ps)) := fun x => hdU ((hU hd).2 x)
        refine .inr ⟨hd, by omega, hdI, fun x => hdU' (.inl x), fun e he hek hc hab => ?_⟩
        by_cases hx : ixN l e < k
        · refine hall e he hx ?_ hab
          rcases hc with hc | hc
          · exact .inl hc
          · exact .inr ((hU he).2 (.inl hc))
        · have e1 : e = n.id := ixN_inj he hni (by omega)
          subst e1
          rcases hab.inv_at h hn with e2 | ⟨p, hp, hpd⟩
          · exact e2
          · exfalso
            have hpi := ix_par h hn hp
            have e3 := hall p hpi.1 hpi.2 (.inr ((hU hpi.1).2 (.inr ⟨hc, hp⟩))) hpd
            subst e3
            exact hdU' (.inr ⟨hc, hp⟩)
    · rintro (h1 | ⟨hd, hdk, hdI, hdU, hall⟩)
      · exact .inl (.inl h1)
      · by_cases hx : ixN l d < k
        · have hne : ¬ d = n.id := fun e => by rw [e, hnx] at hx; omega
          refine .inr ⟨hd, hx, hdI, fun hb => ?_, fun e he hek hc hab => ?_⟩
          · rcases (hU hd).1 hb with hb | ⟨hc, hp⟩
            · exact hdU hb
            · exact hne (hall n.id hni (by omega) hc (.step (List.mem_of_getElem? hn) hp (.refl _))).symm
          · rcases hc with hc | hc
            · exact hall e he (by omega) (.inl hc) hab
            · rcases (hU he).1 hc with hc | ⟨hc, hp⟩
              · exact hall e he (by omega) (.inr hc) hab
              · exact absurd (hall n.id hni (by omega) hc (.step (List.mem_of_getElem? hn) hp hab)).symm hne
        · have e1 : d = n.id := ixN_inj hd hni (by omega)
          subst e1
          exact .inl (.inr ⟨rfl, hdI, hdU⟩)
theorem headsD_nodup (h : (readE l).2 = 0) {In : List Bool} : ∀ {k : Nat} {U : List Bool} {out : List Dig}, k ≤ l.length → out.Nodup → (∀ x ∈ out, k ≤ ixN l x) → (headsD l In k U out).Nodup
  | 0, U, out, _, hn, _ => by rw [headsD]; exact hn
  | k + 1, U, out, hk, ho, hx => by
    obtain ⟨n, hn⟩ : ∃ n, l[k]? = some n := ⟨_, List.getElem?_eq_getElem (by omega)⟩
    have hnx := ixN_at h hn
    rw [headsD_at hn]
    refine headsD_nodup h (by omega) ?_ ?_
    · split
      · refine List.nodup_append.2 ⟨ho, by simp, fun a ha b hb => ?_⟩
        simp at hb; subst hb
        intro e; subst e
        have := hx _ ha; omega
      · exact ho
    · intro x hxm
      split at hxm
      · rcases List.mem_append.1 hxm with h1 | h1
        · have := hx x h1; omega
        · simp at h1; subst h1; omega
      · have := hx x hxm; omega
theorem heads_up (h : (readE l).2 = 0) {In : List Bool} : Up (headsL l In) := sortedD_up (headsD_nodup h (Nat.le_refl _) List.nodup_nil (fun x hx => by cases hx))
theorem heads_mem (h : (readE l).2 = 0) {In : List Bool} {d : Dig} : d ∈ headsL l In ↔ d ∈ idsL l ∧ bitAt In l d = true ∧ ∀ e ∈ idsL l, bitAt In l e = true → Ab l e d → e = d := by
  rw [headsL, sortedD_mem, headsD_mem h (Nat.le_refl _) (by simp)]
  simp only [rep_bit, List.not_mem_nil, false_or, or_false, Bool.false_eq_true, not_false_eq_true, true_and]
  constructor
  · rintro ⟨h1, _, h2, h3⟩
    exact ⟨h1, h2, fun e he hb hab => h3 e he (ixN_lt he) hb hab⟩
  · rintro ⟨h1, h2, h3⟩
    exact ⟨h1, ixN_lt h1, h2, fun e he _ hb hab => h3 e he hb hab⟩
structure IsHead (l : List Nd) (X : Dig → Prop) (d : Dig) : Prop where
  mem : X d
  max : ∀ e, X e → Ab l e d → e = d
theorem heads_is (h : (readE l).2 = 0) {In : List Bool} {X : Dig → Prop} (hX : ∀ d, X d → d ∈ idsL l) (hb : ∀ d ∈ idsL l, bitAt In l d = true ↔ X d) {d : Dig} : d ∈ headsL l In ↔ IsHead l X d := by
  rw [heads_mem h]
  constructor
  · rintro ⟨h1, h2, h3⟩
    exact ⟨(hb d h1).1 h2, fun e he hab => h3 e (hX e he) ((hb e (hX e he)).2 he) hab⟩
  · rintro ⟨h1, h2⟩
    have hd := hX d h1
    exact ⟨hd, (hb d hd).2 h1, fun e he hbe hab => h2 e ((hb e he).1 hbe) hab⟩
end Go.Pl
/- The plain law of graphs: the order of marked nodes. No condition; no program. -/
namespace Go.Pl
open Go.Fw
variable {l : List Nd}
theorem nodup_le : ∀ {a b : List Dig}, a.Nodup → (∀ x ∈ a, x ∈ b) → a.length ≤ b.length
  | [], _, _, _ => Nat.zero_le _
  | x :: a, b, h, hs => by
    have h' := List.nodup_cons.1 h
    have hx := hs x (by simp)
    have ih := nodup_le (a := a) (b := b.erase x) h'.2 (fun y hy => (List.mem_erase_of_ne (fun (e : y = x) => h'.1 (by rw [← e]; exact hy))).2 (hs y (by simp [hy])))
    rw [List.length_erase_of_mem hx] at ih
    have := List.length_pos_of_mem hx
    simp only [List.length_cons]
    omega
def parD (l : List Nd) (d : Dig) : List Dig := ((l[ixN l d]?).map Nd.ps).getD []
theorem parD_at (h : (readE l).2 = 0) {i : Nat} {n : Nd} (hn : l[i]? = some n) : parD l n.id = n.ps := by
  rw [parD, ixN_at h hn, hn]; rfl
theorem parD_mem (h : (readE l).2 = 0) {n : Nd} (hn : n ∈ l) : parD l n.id = n.ps := by
  obtain ⟨j, hj⟩ := List.mem_iff_getElem?.1 hn
  exact parD_at h hj
def mayQ (l : List Nd) (out : List Dig) (d : Dig) : Bool := !decide (d ∈ out) && (parD l d).all fun p => decide (p ∈ out)
theorem mayQ_iff {out : List Dig} {d : Dig} : mayQ l out d = true ↔ d ∉ out ∧ ∀ p ∈ parD l d, p ∈ out := by
  simp [mayQ]
def nextQ (l : List Nd) (all out : List Dig) : Option Dig := all.find? (mayQ l out)
def orderQ (l : List Nd) (all : List Dig) : Nat → List Dig → List Dig
  | 0, out => out
  | k + 1, out => match nextQ l all out with
    | none => out
    | some d => orderQ l all k (out ++ [d])
theorem orderQ_none {all out : List Dig} (h : nextQ l all out = none) : ∀ k, orderQ l all k out = out
  | 0 => rfl
  | k + 1 => by rw [orderQ, h]
theorem orderQ_some {all out : List Dig} {d : Dig} {k : Nat} (h : nextQ l all out = some d) : orderQ l all (k + 1) out = orderQ l all k (out ++ [d]) := by rw [orderQ, h]
theorem find_least {p : Dig → Bool} {x : Dig} : ∀ {all : List Dig}, Up all → x ∈ all → p x = true → (∀ y ∈ all, p y = true → y = x ∨ lessB x y = true) → all.find? p = some x
  | [], _, h, _, _ => by cases h
  | y :: r, hu, hx, hp, hall => by
    have hu' := List.pairwise_cons.1 hu
    rw [List.find?_cons]
    cases hpy : p y with
    | true =>
      rcases hall y (by simp) hpy with e | hl
      · subst e; rfl
      · rcases List.mem_cons.1 hx with e | hr
        · subst e; rfl
        · have := hu'.1 x hr
          rw [less_asymm this] at hl; cases hl
    | false =>
      rcases List.mem_cons.1 hx with e | hr
      · subst e; rw [hp] at hpy; cases hpy
      · exact find_least hu'.2 hr hp (fun z hz => hall z (by simp [hz]))
structure Cand (l : List Nd) (In C : List Bool) (i : Nat) (n : Nd) : Prop where
  isin : In[i]? = some true
  new : ¬ C[i]? = some true
  par : (n.ps.any fun d => !bitAt C l d) = false
theorem bestD_spec (h : (readE l).2 = 0) {In C : List Bool} : ∀ {k : Nat}, k ≤ l.length →
    (bestD l In C k = none ∧ ∀ i n, i < k → l[i]? = some n → ¬ Cand l In C i n) ∨
    ∃ b m, bestD l In C k = some b ∧ l[b]? = some m ∧ b < k ∧ Cand l In C b m ∧ ∀ i n, i < k → l[i]? = some n → Cand l In C i n → i = b ∨ lessB m.id n.id = true
  | 0, _ => .inl ⟨rfl, fun i n hi => by omega⟩
  | k + 1, hk => by
    obtain ⟨n, hn⟩ : ∃ n, l[k]? = some n := ⟨_, List.getElem?_eq_getElem (by omega)⟩
    rw [bestD_at hn]
    rcases bestD_spec h (In := In) (C := C) (k := k) (by omega) with ⟨hb, hno⟩ | ⟨b, m, hb, hm, hbk, hc, hall⟩
    · rw [hb]
      by_cases hx : nextB l In C none k n = true
      · rw [if_pos hx]
        obtain ⟨h1, h2, _, h4⟩ := nextB_iff.1 hx
        refine .inr ⟨k, n, rfl, hn, by omega, ⟨h1, h2, h4⟩, fun i ni hi hni hci => ?_⟩
        by_cases e : i = k
        · exact .inl e
        · exact absurd hci (hno i ni (by omega) hni)
      · rw [if_neg hx]
        refine .inl ⟨rfl, fun i ni hi hni hci => ?_⟩
        by_cases e : i = k
        · subst e
          rw [hn] at hni; cases hni
          exact hx (nextB_iff.2 ⟨hci.1, hci.2, (fun b hb => by cases hb), hci.3⟩)
        · exact hno i ni (by omega) hni hci
    · rw [hb]
      have hidb : idAt l b = m.id := idAt_at hm
      by_cases hx : nextB l In C (some b) k n = true
      · rw [if_pos hx]
        obtain ⟨h1, h2, h3, h4⟩ := nextB_iff.1 hx
        have h9 := h3 b rfl
        rw [hidb] at h9
        refine .inr ⟨k, n, rfl, hn, by omega, ⟨h1, h2, h4⟩, fun i ni hi hni hci => ?_⟩
        by_cases e : i = k
        · exact .inl e
        · rcases hall i ni (by omega) hni hci with e2 | h5
          · subst e2
            rw [hm] at hni; cases hni
            exact .inr h9
          · exact .inr (less_trans h9 h5)
      · rw [if_neg hx]
        refine .inr ⟨b, m, rfl, hm, by omega, hc, fun i ni hi hni hci => ?_⟩
        by_cases e : i = k
        · subst e
          rw [hn] at hni; cases hni
          right
          cases h5 : lessB m.id n.id with
          | true => rfl
          | false =>
            exfalso
            apply hx
            refine nextB_iff.2 ⟨hci.1, hci.2, fun b2 hb2 => ?_, hci.3⟩
            cases hb2
            rw [hidb]
            cases h6 : lessB n.id m.id with
            | true => rfl
            | false =>
              have e2 := less_tri h5 h6
              have h7 := ixN_at h hm
              rw [e2, ixN_at h hn] at h7
              omega
        · exact hall i ni (by omega) hni hci
theorem cand_iff (h : (readE l).2 = 0) {In C : List Bool} {out : List Dig} (hC : ∀ d ∈ idsL l, bitAt C l d = true ↔ d ∈ out) {i : Nat} {n : Nd} (hn : l[i]? = some n) : Cand l In C i n ↔ bitAt In l n.id = true ∧ mayQ l out n.id = true := by
  have hni := mem_ids_at hn
  have hx := ixN_at h hn
  have hp : (n.ps.any fun d => !bitAt C l d) = false ↔ ∀ p ∈ n.ps, p ∈ out := by
    rw [List.any_eq_false]
    constructor
    · intro h1 p hp
      have := h1 p hp
      exact (hC p (ix_par h hn hp).1).1 (by simpa using this)
    · intro h1 p hp
      have := (hC p (ix_par h hn hp).1).2 (h1 p hp)
      simp [this]
  rw [mayQ_iff, parD_at h hn, bit_iff, hx, ← hp]
  have hc := hC n.id hni
  rw [bit_iff, hx] at hc
  exact ⟨fun ⟨h1, h2, h3⟩ => ⟨h1, fun e => h2 (hc.2 e), h3⟩, fun ⟨h1, h2, h3⟩ => ⟨h1, fun e => h2 (hc.1 e), h3⟩⟩
theorem best_next (h : (readE l).2 = 0) {In C : List Bool} {all out : List Dig} (hu : Up all) (hall : ∀ d, d ∈ all ↔ d ∈ idsL l ∧ bitAt In l d = true) (hC : ∀ d ∈ idsL l, bitAt C l d = true ↔ d ∈ out) :
    nextQ l all out = (bestD l In C l.length).map (idAt l) := by
  rcases bestD_spec h (In := In) (C := C) (Nat.le_refl _) with ⟨hb, hno⟩ | ⟨b, m, hb, hm, hbk, hc, hmin⟩
  · rw [hb, Option.map_none, nextQ, List.find?_eq_none]
    intro d hd hm
    obtain ⟨h1, h2⟩ := (hall d).1 hd
    obtain ⟨n, hn, rfl⟩ := at_ixN h1
    exact hno _ n (ixN_lt h1) hn ((cand_iff h hC hn).2 ⟨h2, hm⟩)
  · rw [hb, Option.map_some, idAt_at hm, nextQ]
    obtain ⟨h1, h2⟩ := (cand_iff h hC hm).1 hc
    refine find_least hu ((hall _).2 ⟨mem_ids_at hm, h1⟩) h2 fun y hy hmy => ?_
    obtain ⟨h3, h4⟩ := (hall y).1 hy
    obtain ⟨n, hn, rfl⟩ := at_ixN h3
    rcases hmin _ n (ixN_lt h3) hn ((cand_iff h hC hn).2 ⟨h4, hmy⟩) with e | h5
    · left; rw [e, hm] at hn; cases hn; rfl
    · exact .inr h5
theorem set_bit (h : (readE l).2 = 0) {C : List Bool} (hl : C.length = l.length) {b : Nat} {m : Nd} (hm : l[b]? = some m) {d : Dig} (hd : d ∈ idsL l) : bitAt (C.set b true) l d = true ↔ bitAt C l d = true ∨ d = m.id := by
  have hb := (List.getElem?_eq_some_iff.1 hm).1
  have hx := ixN_at h hm
  rw [bit_iff, bit_iff, List.getElem?_set]
  by_cases e : b = ixN l d
  · have e2 : d = m.id := ixN_inj hd (mem_ids_at hm) (by omega)
    rw [if_pos e, if_pos (by omega)]
    simp [e2]
  · have e2 : ¬ d = m.id := fun e2 => e (by rw [e2, hx])
    rw [if_neg e]
    simp [e2]
theorem orderD_eq (h : (readE l).2 = 0) {In : List Bool} {all : List Dig} (hu : Up all) (hall : ∀ d, d ∈ all ↔ d ∈ idsL l ∧ bitAt In l d = true) : ∀ {k : Nat} {C : List Bool} {out : List Dig}, C.length = l.length → (∀ d ∈ idsL l, bitAt C l d = true ↔ d ∈ out) → orderD l In k C out = orderQ l all k out
  | 0, _, _, _, _ => rfl
  | k + 1, C, out, hl, hC => by
    have hb := best_next h hu hall hC
    cases hbd : bestD l In C l.length with
    | none =>
      rw [orderD_none hbd]
      rw [hbd] at hb
      rw [orderQ_none hb]
    | some b =>
      rw [orderD_some hbd]
      rw [hbd] at hb
      rw [orderQ_some hb]
      have hbl := (bestD_some hbd).1
      obtain ⟨m, hm⟩ : ∃ m, l[b]? = some m := ⟨_, List.getElem?_eq_getElem hbl⟩
      refine orderD_eq h hu hall (by rw [List.length_set]; exact hl) fun d hd => ?_
      rw [set_bit h hl hm hd, hC d hd, idAt_at hm]
      simp
theorem orderL_eq (h : (readE l).2 = 0) {In : List Bool} {all : List Dig} (hu : Up all) (hall : ∀ d, d ∈ all ↔ d ∈ idsL l ∧ bitAt In l d = true) : orderL l In = orderQ l all (l.length + 1) [] :=
  orderD_eq h hu hall (by simp) (fun d _ => by rw [rep_bit]; simp)
structure Came (l : List Nd) (all out : List Dig) : Prop where
  once : out.Nodup
  isin : ∀ d ∈ out, d ∈ all
  par : ∀ i d, out[i]? = some d → ∀ p ∈ parD l d, p ∈ out.take i
theorem Came.nil {all : List Dig} : Came l all [] := ⟨List.nodup_nil, (fun d h => by cases h), fun i d h => by simp at h⟩
theorem nextQ_some {all out : List Dig} {d : Dig} (h : nextQ l all out = some d) : d ∈ all ∧ d ∉ out ∧ ∀ p ∈ parD l d, p ∈ out :=
  ⟨List.mem_of_find?_eq_some h, mayQ_iff.1 (List.find?_some h)⟩
theorem Came.more {all out : List Dig} {d : Dig} (h : Came l all out) (hd : nextQ l all out = some d) : Came l all (out ++ [d]) := by
  obtain ⟨h1, h2, h3⟩ := nextQ_some hd
  refine ⟨List.nodup_append.2 ⟨h.once, by simp, fun a ha b hb e => ?_⟩, fun x hx => ?_, fun i x hx p hp => ?_⟩
  · simp at hb; subst hb; subst e; exact h2 ha
  · rcases List.mem_append.1 hx with hx | hx
    · exact h.isin x hx
    · simp at hx; subst hx; exact h1
  · by_cases hi : i < out.length
    · rw [List.getElem?_append_left hi] at hx
      rw [List.take_append_of_le_length (by omega)]
      exact h.par i x hx p hp
    · have hi2 : i = out.length := by
        have := (List.getElem?_eq_some_iff.1 hx).1
        simp at this; omega
      subst hi2
      rw [List.getElem?_append_right (Nat.le_refl _)] at hx
      simp at hx; subst hx
      rw [List.take_append_of_le_length (Nat.le_refl _), List.take_length]
      exact h3 p hp
theorem Came.le {all out : List Dig} (h : Came l all out) : out.length ≤ all.length := nodup_le h.once h.isin
theorem next_all (h : (readE l).2 = 0) {all out : List Dig} (hi : ∀ d ∈ all, d ∈ idsL l) (hcl : ∀ d ∈ all, ∀ p ∈ parD l d, p ∈ all) (hn : nextQ l all out = none) : ∀ {k : Nat} {d : Dig}, d ∈ all → ixN l d < k → d ∈ out
  | 0, _, _, hk => by omega
  | k + 1, d, hd, hk => by
    have h1 := List.find?_eq_none.1 hn d hd
    by_cases hm : d ∈ out
    · exact hm
    · exfalso
      apply h1
      refine mayQ_iff.2 ⟨hm, fun p hp => ?_⟩
      obtain ⟨n, hnn, rfl⟩ := at_ixN (hi d hd)
      have hp2 := hp
      rw [parD_at h hnn] at hp2
      have := ix_par h hnn hp2
      exact next_all h hi hcl hn (k := k) (d := p) (hcl _ hd p hp) (by omega)
theorem Came.order (h : (readE l).2 = 0) {all : List Dig} (hi : ∀ d ∈ all, d ∈ idsL l) (hcl : ∀ d ∈ all, ∀ p ∈ parD l d, p ∈ all) : ∀ {k : Nat} {out : List Dig}, Came l all out → Came l all (orderQ l all k out) ∧ (all.length < k + out.length → ∀ d ∈ all, d ∈ orderQ l all k out)
  | 0, out, hc => ⟨hc, fun hk => by have := hc.le; omega⟩
  | k + 1, out, hc => by
    cases hn : nextQ l all out with
    | none =>
      rw [orderQ_none hn]
      exact ⟨hc, fun _ d hd => next_all h hi hcl hn hd (Nat.lt_succ_self _)⟩
    | some d =>
      rw [orderQ_some hn]
      have := Came.order h hi hcl (k := k) (hc.more hn)
      exact ⟨this.1, fun hk => this.2 (by simp; omega)⟩
theorem under_closed (h : (readE l).2 = 0) {ids : List Dig} (hin : ∀ p ∈ ids, p ∈ idsL l) : ∀ d ∈ aboveL l ids, ∀ p ∈ parD l d, p ∈ aboveL l ids := by
  intro d hd p hp
  obtain ⟨a, ha, had⟩ := (above_mem h hin).1 hd
  obtain ⟨n, hn, rfl⟩ := at_ixN (had.mem h (hin a ha))
  rw [parD_at h hn] at hp
  exact (above_mem h hin).2 ⟨a, ha, had.trans (.step (List.mem_of_getElem? hn) hp (.refl _))⟩
theorem above_length {ids : List Dig} : (aboveL l ids).length ≤ l.length := by
  rw [aboveL, sortedD_length, List.length_map]
  exact reachD_le
def ordL (l : List Nd) (ids : List Dig) : List Dig := orderQ l (aboveL l ids) (l.length + 1) []
theorem order_marks (h : (readE l).2 = 0) {ids : List Dig} (hin : ∀ p ∈ ids, p ∈ idsL l) : orderL l (markS l ids) = ordL l ids :=
  orderL_eq h (above_up h) fun d => by
    rw [above_mem h hin]
    constructor
    · intro hu
      have hd := under_ids h hin hu
      exact ⟨hd, (markS_bit h hin hd).2 hu⟩
    · rintro ⟨hd, hb⟩
      exact (markS_bit h hin hd).1 hb
theorem ordL_came (h : (readE l).2 = 0) {ids : List Dig} (hin : ∀ p ∈ ids, p ∈ idsL l) : Came l (aboveL l ids) (ordL l ids) ∧ ∀ d ∈ aboveL l ids, d ∈ ordL l ids := by
  have := Came.order h (all := aboveL l ids) (fun d hd => under_ids h hin ((above_mem h hin).1 hd)) (under_closed h hin) (k := l.length + 1) (out := []) Came.nil
  refine ⟨this.1, this.2 ?_⟩
  have := above_length (l := l) (ids := ids)
  simp; omega
end Go.Pl
/- slices.DeleteFunc at digests of our own; graph.Order, Lacks, walked. No condition. -/
namespace Go.Fw
open Go.RowKit
section
variable {P : Program} {n : NN} {fr : Fr} {w : World} {ty : TypeId} {e : TypeId}
theorem St.alloc1 {t : TypeId} {z : Value} (hI : (P.info? t).map (fun i => i.zero) = some (some z)) (hz : z.cells = #[z]) : St P n fr (.alloc t) ty w (fun v w' => ∃ g, v = .pointer (some ⟨g, 0, none⟩) ∧ w.heap.size ≤ g ∧ Blk w' g t [z] ∧ Ext w w') := fun a o' ho hty ha => by
  obtain ⟨i, hi, hp⟩ := Option.map_eq_some_iff.1 hI
  refine ⟨_, w.alloc (.cells [z].toArray t), ?_, w.heap.size, rfl, Nat.le_refl _, Blk.new w t [z], Chg.alloc _⟩
  simp [execOp, ho, Instr.alloc, zeroValue, typeInfo, hi, hp, newVar, newRow, hz]
end
end Go.Fw
namespace Go.Pl
open Go.Fw
abbrev keptD (p : Dig → Bool) (l : List Dig) : List Dig := l.filter fun d => !p d
structure Mid (p : Dig → Bool) (l cur : List Dig) (i j : Nat) : Prop where
  len : cur.length = l.length
  lt : i < j
  le : j ≤ l.length
  front : cur.take i = keptD p (l.take j)
  back : cur.drop j = l.drop j
theorem Mid.at {p : Dig → Bool} {l cur : List Dig} {i j : Nat} (h : Mid p l cur i j) {d : Dig} (hd : l[j]? = some d) : cur[j]? = some d := by
  have h1 : (cur.drop j)[0]? = (l.drop j)[0]? := by rw [h.back]
  rw [List.getElem?_drop, List.getElem?_drop, Nat.add_zero] at h1
  rw [h1, hd]
end Go.Pl
namespace Go.Proofs.YtjbeooimhoilmaaDoor
open Go.RowKit Go.Fw Go.Pl Go.Sort
end Go.Proofs.YtjbeooimhoilmaaDoor
/- graph.Order, Lacks, walked. No condition. -/
namespace Go.Pl
open Go.Fw
end Go.Pl
namespace Go.Proofs.YtjbeooimhoilmaaDoor
open Go.RowKit Go.Fw Go.Pl Go.Sort
set_option maxHeartbeats 1000000 in
theorem gOrder_any (u v0 : Value) (l : List NdV) (ids : List Dig) (w : World) (hl : Nds w u l) (hd : Sl w digC 32 v0 ids) : Calls Tryd.prog 22 #[u, v0] w (Ret fun v w' => ∃ hv, v = .tuple #[hv, .int .i64 (wrongQ (ndsL l) ids)] ∧ Own w' TDg 32 hv (flatD (if wrongQ (ndsL l) ids = 0 then orderL (ndsL l) (markS (ndsL l) ids) else [])) ∧ (∀ k, hv.ownBlock = some k → w.heap.size ≤ k) ∧ Ext w w') := by
  have hl0 := hl
  obtain ⟨A, c, rfl, hmc, hcm⟩ := hl.sl.lens
  unfold maxLen at hcm
  have hd0 := hd
  obtain ⟨A1, m1, c1, rfl, hdm, hdc, hdx, hdg⟩ := hd
  unfold maxLen at hdx
  have hnl : (ndsL l).length = l.length := by simp
  refine calls_of_CW 23 [4, 5] [(0, .slice A l.length c), (1, .slice A1 m1 c1)] Tryd.func22 rfl rfl rfl (by simp) args2 ?_
  have hE : Ext w w := Chg.refl
  refine CW.seq fun K1 hK1 => ?_
  refine CW.region ?_
  refine WL.val (Y.assign rfl) (by decide) ?_
  refine WL.val (Y.assign rfl) (by decide) ?_
  refine WL.nil ?_
  refine hK1 _ _ ?_; try clear hK1 K1
  refine CW.seq fun K2 hK2 => ?_
  refine CW.region ?_
  refine WL.val (Y.move rfl) (by decide) ?_
  refine WL.val (Y.move rfl) (by decide) ?_
  refine WL.st (St.buildSlice rfl (bs1_sd _ _ _)) (by decide) fun v11 w1 hR1 => ?_
  obtain ⟨g14, rfl, hg14, hB14, hx1⟩ := hR1
  have hz1 := hx1.size
  have hE := hE.thenExt hx1
  refine WL.call Tryd.func33 rfl rfl rfl (gbegin_any _ _ l [(.slice A1 m1 c1, ids)] _ (hl0.ext hx1) (Blk.slV (ds := [(.slice A1 m1 c1, ids)]) hB14 (by simp [maxLen])) (fun x hx => by simp at hx; subst hx; exact hd0.ext hx1)) (by simp) ?_; rintro v12 w2 hR2
  obtain ⟨p, rfl, hx2, hp⟩ := hR2
  have hz2 := hx2.size
  have hE := hE.thenExt hx2
  have hfl : ([((.slice A1 m1 c1 : Value), ids)].map Prod.snd).flatten = ids := by simp
  simp only [hfl] at hp ⊢
  refine WL.val (Y.move rfl) (by decide) ?_
  refine WL.val (Y.extract rfl rfl) (by decide) ?_
  refine WL.val (Y.extract rfl rfl) (by decide) ?_
  refine WL.val (Y.assign rfl) (by decide) ?_
  refine WL.val (Y.assign rfl) (by decide) ?_
  refine WL.nil ?_
  refine hK2 _ _ ?_; try clear hK2 K2
  refine CW.seq fun K3 hK3 => ?_
  refine CW.seq fun K4 hK4 => ?_
  refine CW.region ?_
  refine WL.val (Y.move rfl) (by decide) ?_
  refine WL.val (Y.neq rfl rfl) (by decide) ?_
  refine WL.nil ?_
  refine hK4 _ _ ?_; try clear hK4 K4
  first | refine CW.condD rfl (fun ht5 => ?_) (fun ht5 => ?_) | refine CW.condND rfl (fun ht5 => ?_) (fun ht5 => ?_) | refine CW.condN rfl (fun ht5 => ?_) (fun ht5 => ?_) | refine CW.cond rfl (fun ht5 => ?_) (fun ht5 => ?_)
  · -- then
    refine CW.seq fun K6 hK6 => ?_
    refine CW.region ?_
    refine WL.val (Y.move rfl) (by decide) ?_
    refine WL.val (Y.assign rfl) (by decide) ?_
    refine WL.val (Y.assign rfl) (by decide) ?_
    refine WL.nil ?_
    refine hK6 _ _ ?_; try clear hK6 K6
    refine CW.ret ⟨_, rfl, ?_⟩
    have he : ¬ wrongQ (ndsL l) ids = 0 := by assumption
    exact ⟨_, rfl, by rw [if_neg he]; exact Own.nil, (fun k h => by simp [Value.ownBlock] at h), hE⟩
  refine CW.skip ?_
  refine hK3 _ _ ?_; try clear hK3 K3
  refine CW.seq fun K7 hK7 => ?_
  have hq0 : wrongQ (ndsL l) ids = 0 := Decidable.not_not.1 (by assumption)
  obtain ⟨gk, r, sb, rfl, hK⟩ := hp hq0
  have hin := wrongQ_in hq0
  have hnew := hK.new
  refine CW.region ?_
  refine WL.val (Y.move rfl) (by decide) ?_
  refine WL.val (Y.move rfl) (by decide) ?_
  refine WL.val (Y.move rfl) (by decide) ?_
  refine WL.call Tryd.func35 rfl rfl rfl (gmarks_any w1 _ gk r sb _ _ l ids _ hK (hd0.ext hx1) hin) (by simp) ?_; rintro v21 w3 hR3
  obtain ⟨b, rfl, hb, hIn, ⟨S3, hK⟩, hc3⟩ := hR3
  have hz3 := hc3.size
  have hE := hE.step hc3 (fun k h => by omega)
  refine WL.call Tryd.func34 rfl rfl rfl (gorderL_any w1 _ gk r sb b _ l S3 (markS (ndsL l) ids) hK hIn (by rw [markS, setI_length, List.length_replicate, hnl])) (by simp) ?_; rintro v22 w4 hR4
  obtain ⟨hO, hfu, hx4⟩ := hR4
  have hz4 := hx4.size
  have hE := hE.thenExt hx4
  refine WL.val (Y.assign rfl) (by decide) ?_
  refine WL.val (Y.assign rfl) (by decide) ?_
  refine WL.nil ?_
  refine hK7 _ _ ?_; try clear hK7 K7
  refine CW.ret ⟨_, rfl, ?_⟩
  exact ⟨_, by rw [hq0], by rw [if_pos hq0]; exact hO, fun k hk => by have := hfu k hk; omega, hE⟩
end Go.Proofs.YtjbeooimhoilmaaDoor
