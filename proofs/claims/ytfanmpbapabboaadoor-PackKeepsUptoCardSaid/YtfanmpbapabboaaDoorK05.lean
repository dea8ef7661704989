/- Parts of a proof: what its last text leans on. No condition. -/
import Derived.Great.BuildSlice
import Derived.Test.YtfanmpbapabboaaDoorK03
import Derived.Test.YtfanmpbapabboaaDoorK04
set_option linter.unusedSimpArgs false
set_option linter.unusedVariables false
/- What is wrong with an operation: commit.Right and the reference's Right, walked; the reference's Name. No condition. -/
namespace Go.Proofs.YtfanmpbapabboaaDoor
open Go.RowKit Go.Fw Go.Pl
theorem right_any (lv : Value) (l : List OpD) (i : Int) (w : World) (hl : Sl w opC 37 lv l) (hi : InI64 i) : Calls Tryd.prog 58 #[lv, .int .i64 i] w (Ret fun v w' => v = .int .i64 (rightI l i) ∧ Ext w w') := by
 obtain ⟨A, m, c, rfl, hm, hmc, hcm, hls⟩ := hl
 unfold maxLen at hcm
 refine calls_of_CW 69 [4] [(0, .slice A m c), (1, .int .i64 i)] Tryd.func58 rfl rfl rfl (by simp) args2 ?_
 refine CW.sr fun K1 hK1 => ?_
 refine WL.a rfl ?_
 refine WL.nil (hK1 _ _ ?_); try clear hK1
 refine CW.seq fun K2 hK2 => ?_
 refine CW.seq_test 13 (i < 1 ∨ (m : Int) < i) ?_ ?_
 ·
  refine CW.region ?_
  refine WL.m rfl ?_
  refine WL.v (Y.lss rfl rfl) ?_
  refine WL.m rfl ?_
  (first | refine WL.casesD (d := 8) rfl ?_ ?_ | refine WL.casesND (d := 8) rfl ?_ ?_ | refine WL.cases (d := 8) rfl ?_ ?_) <;> intro hg8
  ·
   -- t8 = T
   refine WL.o rfl rfl ?_
   refine WL.o rfl rfl ?_
   refine WL.o rfl rfl ?_
   refine WL.o rfl rfl ?_
   refine WL.v (Y.pick rfl rfl) ?_
   refine WL.nil ⟨⟨_, rfl, ?_⟩, rfl, Fr.okp⟩
   exact tst_ok
  ·
   -- t8 = F
   refine WL.g rfl rfl (Y.move rfl) ?_
   refine WL.g rfl rfl (Y.move rfl) ?_
   refine WL.g rfl rfl (Y.len_slice Tryd.underlying44 rfl) ?_
   refine WL.g rfl rfl (Y.gtr rfl rfl) ?_
   refine WL.v (Y.pick rfl rfl) ?_
   refine WL.nil ⟨⟨_, rfl, ?_⟩, rfl, Fr.okp⟩
   exact tst_ok
 (first | refine cd_ rfl ?_ ?_ | refine ce_ rfl ?_ ?_ | refine cn_ rfl ?_ ?_ | refine cb_ rfl ?_ ?_) <;> intro ht3
 ·
  -- then
  refine CW.sr fun K4 hK4 => ?_
  refine WL.a rfl ?_
  refine WL.nil (hK4 _ _ ?_); try clear hK4
  refine CW.ret ⟨_, rfl, ?_⟩
  exact ⟨by rw [rightI, if_pos (by rw [hm]; exact ht3)], Chg.refl⟩
 refine CW.skip ?_
 refine hK2 _ _ ?_; try clear hK2
 refine CW.seq fun K5 hK5 => ?_
 have hlo : ¬ (i < 1 ∨ (m : Int) < i) := ht3
 obtain ⟨x, hx⟩ : ∃ x, l[(i - 1).toNat]? = some x := ⟨_, List.getElem?_eq_getElem om_⟩
 obtain ⟨ad, rfl, hmx⟩ := hls _ x hx
 have hval : rightI l i = rightX l i x := rightI_of (by rw [hm]; exact hlo) hx
 refine CW.region ?_
 refine WL.m rfl ?_
 refine WL.m rfl ?_
 refine WL.v (Y.sub rfl rfl o2_) ?_
 refine WL.v (Y.indexAddr Tryd.underlying44 rfl rfl sz0_apiOp om_ om_) ?_
 refine WL.v (Y.load Tryd.underlying101 rfl hmx (sz_apiOp _) rfl) ?_
 refine as_apiOp rfl (by simp) de_ fun g5 w1 hx1 hg5 hB5 => ?_
 have hM5 := hB5.mem
 refine WL.nil (hK5 _ _ ?_); try clear hK5
 refine CW.seq fun K6 hK6 => ?_
 refine CW.sr fun K7 hK7 => ?_
 refine WL.v (Y.fieldAddr fo_apiOp2 rfl) ?_
 refine WL.v (Y.load Tryd.underlying99 rfl hM5.op2 (sz_apiRef _) rfl) ?_
 refine WL.call Tryd.func68 rfl rfl rfl ((ref_any _ _)) (by simp) ?_; rintro v w2 ⟨rfl, hx2⟩; have hM5 := hM5.ext hx2
 refine WL.v (Y.not rfl) ?_
 refine WL.nil (hK7 _ _ ?_); try clear hK7
 (first | refine cd_ rfl ?_ ?_ | refine ce_ rfl ?_ ?_ | refine cn_ rfl ?_ ?_ | refine cb_ rfl ?_ ?_) <;> intro ht8
 ·
  -- then
  refine CW.sr fun K9 hK9 => ?_
  refine WL.a rfl ?_
  refine WL.nil (hK9 _ _ ?_); try clear hK9
  refine CW.ret ⟨_, rfl, ?_⟩
  exact ⟨by rw [hval]; first | (simp_all [rightX]; done) | (simp_all [rightX]; omega), (hx1.thenExt hx2)⟩
 refine CW.skip ?_
 refine hK6 _ _ ?_; try clear hK6
 refine CW.seq_join (fun w0 => Ext w2 w0 ∧ (¬ (x.kind = 1 ∧ (x.left = true ∧ rootB x.at_ = true)) ∧ ¬ (x.kind = 2 ∧ (x.left = true ∨ (x.byte.toNat : Int) ≠ 0 ∨ rootB x.at_ = true)) ∧ ¬ (x.kind ≠ 1 ∧ x.kind ≠ 2))) ?_ ?_
 ·
  skip
  refine CW.sr fun K11 hK11 => ?_
  refine WL.v (Y.fieldAddr fo_apiOp0 rfl) ?_
  refine WL.v (Y.load1 Tryd.underlying3 rfl hM5.op0 rfl) ?_
  refine WL.nil (hK11 _ _ ?_); try clear hK11
  refine CW.block ?_
  refine CW.sr fun K12 hK12 => ?_
  refine WL.v (Y.eql rfl rfl) ?_
  refine WL.a rfl ?_
  refine WL.nil (hK12 _ _ ?_); try clear hK12
  (first | refine cd_ rfl ?_ ?_ | refine ce_ rfl ?_ ?_ | refine cn_ rfl ?_ ?_ | refine cb_ rfl ?_ ?_) <;> intro ht13
  ·
   -- then
   refine CW.seq_testE 33 (x.left = true ∧ rootB x.at_ = true) ?_ ?_
   ·
    refine CW.region ?_
    refine WL.v (Y.fieldAddr fo_apiOp1 rfl) ?_
    refine WL.v (Y.load1 Tryd.underlying4 rfl hM5.op1 rfl) ?_
    refine WL.m rfl ?_
    (first | refine WL.casesD (d := 29) rfl ?_ ?_ | refine WL.casesND (d := 29) rfl ?_ ?_ | refine WL.cases (d := 29) rfl ?_ ?_) <;> intro hg29
    ·
     -- t29 = T
     refine WL.g rfl rfl (Y.fieldAddr fo_apiOp2 rfl) ?_
     refine WL.g rfl rfl (Y.load Tryd.underlying99 rfl hM5.op2 (sz_apiRef _) rfl) ?_
     refine WL.gcall rfl rfl Tryd.func69 rfl rfl rfl ((root_any _ _)) de_ ?_; rintro v w3 ⟨rfl, hx3⟩; have hM5 := hM5.ext hx3
     refine WL.v (Y.pick rfl rfl) ?_
     refine WL.nil ⟨⟨_, rfl, ?_⟩, hx3, Fr.okp⟩
     exact tst_ok
    ·
     -- t29 = F
     refine WL.o rfl rfl ?_
     refine WL.o rfl rfl ?_
     refine WL.o rfl rfl ?_
     refine WL.v (Y.pick rfl rfl) ?_
     refine WL.nil ⟨⟨_, rfl, ?_⟩, Chg.refl, Fr.okp⟩
     exact tst_ok
   intro w4 hx4; have hM5 := hM5.ext hx4
   (first | refine cd_ rfl ?_ ?_ | refine ce_ rfl ?_ ?_ | refine cn_ rfl ?_ ?_ | refine cb_ rfl ?_ ?_) <;> intro ht14
   ·
    -- then
    refine CW.sr fun K15 hK15 => ?_
    refine WL.a rfl ?_
    refine WL.nil (hK15 _ _ ?_); try clear hK15
    refine CW.ret ⟨_, rfl, ?_⟩
    exact ⟨by rw [hval]; first | (simp_all [rightX]; done) | (simp_all [rightX]; omega), ((hx1.thenExt hx2).thenExt hx4)⟩
   refine CW.skip ?_
   exact ⟨Fr.okp, hx4, (by first | (simp_all; done) | (simp_all; omega))⟩
  refine CW.sr fun K16 hK16 => ?_
  refine WL.v (Y.eql rfl rfl) ?_
  refine WL.a rfl ?_
  refine WL.nil (hK16 _ _ ?_); try clear hK16
  (first | refine cd_ rfl ?_ ?_ | refine ce_ rfl ?_ ?_ | refine cn_ rfl ?_ ?_ | refine cb_ rfl ?_ ?_) <;> intro ht17
  ·
   -- then
   refine CW.seq_testE 47 (x.left = true ∨ (x.byte.toNat : Int) ≠ 0 ∨ rootB x.at_ = true) ?_ ?_
   ·
    refine CW.region ?_
    refine WL.v (Y.fieldAddr fo_apiOp1 rfl) ?_
    refine WL.v (Y.load1 Tryd.underlying4 rfl hM5.op1 rfl) ?_
    refine WL.m rfl ?_
    (first | refine WL.casesD (d := 38) rfl ?_ ?_ | refine WL.casesND (d := 38) rfl ?_ ?_ | refine WL.cases (d := 38) rfl ?_ ?_) <;> intro hg38
    ·
     -- t38 = T
     refine WL.o rfl rfl ?_
     refine WL.o rfl rfl ?_
     refine WL.o rfl rfl ?_
     refine WL.v (Y.pick rfl rfl) ?_
     refine WL.m rfl ?_
     refine WL.o rfl rfl ?_
     refine WL.o rfl rfl ?_
     refine WL.o rfl rfl ?_
     refine WL.v (Y.pick rfl rfl) ?_
     refine WL.nil ⟨⟨_, rfl, ?_⟩, Chg.refl, Fr.okp⟩
     exact tst_ok
    ·
     -- t38 = F
     refine WL.g rfl rfl (Y.fieldAddr fo_apiOp3 rfl) ?_
     refine WL.g rfl rfl (Y.load1 Tryd.underlying5 rfl hM5.op3 rfl) ?_
     refine WL.g rfl rfl (Y.neq rfl rfl) ?_
     refine WL.v (Y.pick rfl rfl) ?_
     refine WL.m rfl ?_
     (first | refine WL.casesD (d := 43) rfl ?_ ?_ | refine WL.casesND (d := 43) rfl ?_ ?_ | refine WL.cases (d := 43) rfl ?_ ?_) <;> intro hg43
     ·
      -- t43 = T
      refine WL.o rfl rfl ?_
      refine WL.o rfl rfl ?_
      refine WL.o rfl rfl ?_
      refine WL.v (Y.pick rfl rfl) ?_
      refine WL.nil ⟨⟨_, rfl, ?_⟩, Chg.refl, Fr.okp⟩
      exact tst_ok
     ·
      -- t43 = F
      refine WL.g rfl rfl (Y.fieldAddr fo_apiOp2 rfl) ?_
      refine WL.g rfl rfl (Y.load Tryd.underlying99 rfl hM5.op2 (sz_apiRef _) rfl) ?_
      refine WL.gcall rfl rfl Tryd.func69 rfl rfl rfl ((root_any _ _)) de_ ?_; rintro v w5 ⟨rfl, hx5⟩; have hM5 := hM5.ext hx5
      refine WL.v (Y.pick rfl rfl) ?_
      refine WL.nil ⟨⟨_, rfl, ?_⟩, hx5, Fr.okp⟩
      exact tst_ok
   intro w6 hx6; have hM5 := hM5.ext hx6
   (first | refine cd_ rfl ?_ ?_ | refine ce_ rfl ?_ ?_ | refine cn_ rfl ?_ ?_ | refine cb_ rfl ?_ ?_) <;> intro ht18
   ·
    -- then
    refine CW.sr fun K19 hK19 => ?_
    refine WL.a rfl ?_
    refine WL.nil (hK19 _ _ ?_); try clear hK19
    refine CW.ret ⟨_, rfl, ?_⟩
    exact ⟨by rw [hval]; first | (simp_all [rightX]; done) | (simp_all [rightX]; omega), ((hx1.thenExt hx2).thenExt hx6)⟩
   refine CW.skip ?_
   exact ⟨Fr.okp, hx6, (by first | (simp_all; done) | (simp_all; omega))⟩
  refine CW.sr fun K20 hK20 => ?_
  refine WL.a rfl ?_
  refine WL.nil (hK20 _ _ ?_); try clear hK20
  refine CW.ret ⟨_, rfl, ?_⟩
  exact ⟨by rw [hval]; first | (simp_all [rightX]; done) | (simp_all [rightX]; omega), (hx1.thenExt hx2)⟩
 rintro w7 ⟨hx7, hj7⟩; have hM5 := hM5.ext hx7
 refine CW.seq fun K21 hK21 => ?_
 refine CW.seq_test 68 (x.at_.own = true ∧ (i ≤ x.at_.n ∨ kindAt l (x.at_.n - 1).toNat ≠ 1)) ?_ ?_
 ·
  refine CW.region ?_
  refine WL.v (Y.fieldAddr fo_apiOp2 rfl) ?_
  refine WL.v (Y.fieldAddr fo_apiRef0 rfl) ?_
  refine WL.v (Y.load1 Tryd.underlying4 rfl hM5.op2.ref0 rfl) ?_
  refine WL.m rfl ?_
  (first | refine WL.casesD (d := 51) rfl ?_ ?_ | refine WL.casesND (d := 51) rfl ?_ ?_ | refine WL.cases (d := 51) rfl ?_ ?_) <;> intro hg51
  ·
   -- t51 = T
   refine WL.g rfl rfl (Y.fieldAddr fo_apiOp2 rfl) ?_
   refine WL.g rfl rfl (Y.fieldAddr fo_apiRef2 rfl) ?_
   refine WL.g rfl rfl (Y.load1 Tryd.underlying3 rfl hM5.op2.ref2 rfl) ?_
   refine WL.g rfl rfl (Y.move rfl) ?_
   refine WL.g rfl rfl (Y.geq rfl rfl) ?_
   refine WL.g rfl rfl (Y.move rfl) ?_
   (first | refine WL.casesD (d := 57) rfl ?_ ?_ | refine WL.casesND (d := 57) rfl ?_ ?_ | refine WL.cases (d := 57) rfl ?_ ?_) <;> intro hg57
   ·
    -- t57 = T
    refine WL.o rfl rfl ?_
    refine WL.o rfl rfl ?_
    refine WL.o rfl rfl ?_
    refine WL.o rfl rfl ?_
    refine WL.o rfl rfl ?_
    refine WL.o rfl rfl ?_
    refine WL.o rfl rfl ?_
    refine WL.o rfl rfl ?_
    refine WL.o rfl rfl ?_
    refine WL.g rfl rfl (Y.pick rfl rfl) ?_
    refine WL.v (Y.pick rfl rfl) ?_
    refine WL.nil ⟨⟨_, rfl, ?_⟩, rfl, Fr.okp⟩
    exact tst_ok
   ·
    -- t57 = F
    refine WL.g rfl rfl (Y.move rfl) ?_
    refine WL.g rfl rfl (Y.fieldAddr fo_apiOp2 rfl) ?_
    refine WL.g rfl rfl (Y.fieldAddr fo_apiRef2 rfl) ?_
    refine WL.g rfl rfl (Y.load1 Tryd.underlying3 rfl hM5.op2.ref2 rfl) ?_
    have hn : 0 < x.at_.n := by first | (have h1 := (rk1 x.at_).1 (by assumption); simp [refB, h1.1] at h1; exact h1.2) | (simp_all [refB]; done)
    obtain ⟨y, hy⟩ : ∃ y, l[(x.at_.n - 1).toNat]? = some y := ⟨_, List.getElem?_eq_getElem om_⟩
    obtain ⟨ad', e, hmy⟩ := hls _ y hy
    injection e with e; subst e
    have hk : kindAt l (x.at_.n - 1).toNat = y.kind := by rw [kindAt, hy]; rfl
    refine WL.g rfl rfl (Y.sub rfl rfl o2_) ?_
    refine WL.g rfl rfl (Y.indexAddr Tryd.underlying44 rfl rfl sz0_apiOp om_ om_) ?_
    refine WL.g rfl rfl (Y.fieldAddr fo_apiOp0 rfl) ?_
    refine WL.g rfl rfl (Y.load1 Tryd.underlying3 rfl (hmy.ext ((hx1.thenExt hx2).thenExt hx7)).op0 rfl) ?_
    refine WL.g rfl rfl (Y.neq rfl rfl) ?_
    refine WL.g rfl rfl (Y.pick rfl rfl) ?_
    refine WL.v (Y.pick rfl rfl) ?_
    refine WL.nil ⟨⟨_, rfl, ?_⟩, rfl, Fr.okp⟩
    exact tst_ok
  ·
   -- t51 = F
   refine WL.o rfl rfl ?_
   refine WL.o rfl rfl ?_
   refine WL.o rfl rfl ?_
   refine WL.o rfl rfl ?_
   refine WL.o rfl rfl ?_
   refine WL.o rfl rfl ?_
   refine WL.goffU rfl rfl de_ ?_
   refine WL.goffU rfl rfl de_ ?_
   refine WL.goffU rfl rfl de_ ?_
   refine WL.goffU rfl rfl de_ ?_
   refine WL.goffU rfl rfl de_ ?_
   refine WL.goffU rfl rfl de_ ?_
   refine WL.goffU rfl rfl de_ ?_
   refine WL.goffU rfl rfl de_ ?_
   refine WL.goffU rfl rfl de_ ?_
   refine WL.o rfl rfl ?_
   refine WL.v (Y.pick rfl rfl) ?_
   refine WL.nil ⟨⟨_, rfl, ?_⟩, rfl, Fr.okp⟩
   exact tst_ok
 (first | refine cd_ rfl ?_ ?_ | refine ce_ rfl ?_ ?_ | refine cn_ rfl ?_ ?_ | refine cb_ rfl ?_ ?_) <;> intro ht22
 ·
  -- then
  refine CW.sr fun K23 hK23 => ?_
  refine WL.a rfl ?_
  refine WL.nil (hK23 _ _ ?_); try clear hK23
  refine CW.ret ⟨_, rfl, ?_⟩
  exact ⟨by rw [hval, rightX, if_neg (by simp [ht8]), if_neg hj7.1, if_neg hj7.2.1, if_neg hj7.2.2, if_pos (by assumption)], ((hx1.thenExt hx2).thenExt hx7)⟩
 refine CW.skip ?_
 refine hK21 _ _ ?_; try clear hK21
 refine CW.sr fun K24 hK24 => ?_
 refine WL.a rfl ?_
 refine WL.nil (hK24 _ _ ?_); try clear hK24
 refine CW.ret ⟨_, rfl, ?_⟩
 exact ⟨by rw [hval, rightX, if_neg (by simp [ht8]), if_neg hj7.1, if_neg hj7.2.1, if_neg hj7.2.2, if_neg (by assumption)], ((hx1.thenExt hx2).thenExt hx7)⟩
end Go.Proofs.YtfanmpbapabboaaDoor
/- What is wrong with a commit: commit.May and the reference's May, walked. No condition. -/
namespace Go.Proofs.YtfanmpbapabboaaDoor
open Go.RowKit Go.Fw Go.Pl
theorem may_any (cv : Value) (cm : ComD) (w : World) (hc : Com w cv cm) : Calls Tryd.prog 44 #[cv] w (Ret fun v w' => v = .int .i64 (mayI cm) ∧ Ext w w') := by
 obtain ⟨pv, ov, rfl, hp, ho, hau, hno⟩ := hc
 have hoS := ho
 obtain ⟨A, m, c, rfl, hm, hmc, hcm, hps⟩ := hp
 obtain ⟨B, k, d, rfl, hk, hkd, hdm, hos⟩ := ho
 unfold maxLen at hcm hdm
 refine calls_of_CW 64 [2] [(0, .agg (comC (.slice A m c) cm.author cm.note (.slice B k d)).toArray)] Tryd.func44 rfl rfl rfl (by simp) args1 ?_
 refine CW.sr fun K1 hK1 => ?_
 refine WL.box rfl rfl de_ fun g1 w1 hx1 hg1 hB1 => ?_
 have hM1 := hB1.mem
 refine WL.a rfl ?_
 refine WL.nil (hK1 _ _ ?_); try clear hK1
 refine CW.seq fun K2 hK2 => ?_
 refine CW.sr fun K3 hK3 => ?_
 refine WL.v (Y.fieldAddr fo_apiCommit0 rfl) ?_
 refine WL.v (Y.load1 Tryd.underlying23 rfl hM1.com0 rfl) ?_
 refine WL.v (Y.len_slice Tryd.underlying23 rfl) ?_
 refine WL.v (Y.gtr rfl rfl) ?_
 refine WL.nil (hK3 _ _ ?_); try clear hK3
 (first | refine cd_ rfl ?_ ?_ | refine ce_ rfl ?_ ?_ | refine cn_ rfl ?_ ?_ | refine cb_ rfl ?_ ?_) <;> intro ht4
 ·
  -- then
  refine CW.sr fun K5 hK5 => ?_
  refine WL.a rfl ?_
  refine WL.nil (hK5 _ _ ?_); try clear hK5
  refine CW.ret ⟨_, rfl, ?_⟩
  exact ⟨by rw [mayI, if_pos om_], hx1⟩
 refine CW.skip ?_
 refine hK2 _ _ ?_; try clear hK2
 refine CW.seq fun K6 hK6 => ?_
 refine CW.sr fun K7 hK7 => ?_
 refine WL.v (Y.fieldAddr fo_apiCommit0 rfl) ?_
 refine WL.v (Y.load1 Tryd.underlying23 rfl hM1.com0 rfl) ?_
 refine WL.v (Y.len_slice Tryd.underlying23 rfl) ?_
 refine WL.m rfl ?_
 refine WL.nil (hK7 _ _ ?_); try clear hK7
 refine CW.block ?_
 refine CW.loop (X := Nat) (fun x => [(1, .pointer (some ⟨g1, 0, none⟩)), (12, .int .i64 (m : Int)), (13, .int .i64 (x : Int))]) (fun x w0 => x ≤ m ∧ (∀ i a b, i + 1 < x → cm.parents[i]? = some a → cm.parents[i + 1]? = some b → lessB a b = true) ∧ Ext w w0 ∧ Mem w0 ⟨g1, 0, none⟩ (comC (.slice A m c) cm.author cm.note (.slice B k d))) (fun x => m - x) 0 (Fr.le.cons rfl (Fr.le.cons rfl (Fr.le.cons rfl Fr.le.nil))) ⟨by omega, fun i a b h => by omega, hx1, hM1⟩ ?_
 intro x w2 hl2
 obtain ⟨hi, hrs, hL2, hM1⟩ := hl2
 refine CW.sr fun K8 hK8 => ?_
 refine WL.v (Y.lss rfl rfl) ?_
 refine WL.nil (hK8 _ _ ?_); try clear hK8
 refine CW.seq fun K9 hK9 => ?_
 (first | refine cd_ rfl ?_ ?_ | refine ce_ rfl ?_ ?_ | refine cn_ rfl ?_ ?_ | refine cb_ rfl ?_ ?_) <;> intro ht10
 ·
  -- then
  refine CW.skip ?_
  refine hK9 _ _ ?_; try clear hK9
  refine CW.seq fun K11 hK11 => ?_
  refine CW.block ?_
  refine CW.sr fun K12 hK12 => ?_
  refine WL.m rfl ?_
  refine WL.a rfl ?_
  refine WL.nil (hK12 _ _ ?_); try clear hK12
  obtain ⟨b, hb⟩ : ∃ b, cm.parents[x]? = some b := ⟨_, List.getElem?_eq_getElem om_⟩
  obtain ⟨a, ha⟩ : ∃ a, cm.parents[((x : Int) - 1).toNat]? = some a := ⟨_, List.getElem?_eq_getElem om_⟩
  obtain ⟨ad, rfl, hmb⟩ := hps _ b hb
  obtain ⟨ad', e, hma⟩ := hps _ a ha
  injection e with e; subst e
  refine CW.seq_testE 32 (0 < x ∧ lessB a b = false) ?_ ?_
  ·
   refine CW.quiet (fun wq => Ext w2 wq) kr_ kr_ Chg.drew ?_
   refine QL.m rfl ?_
   refine QL.v (fun wq hq => Y.gtr rfl rfl) ?_
   refine QL.m rfl ?_
   (first | refine QL.casesD (d := 18) rfl ?_ ?_ | refine QL.casesND (d := 18) rfl ?_ ?_ | refine QL.cases (d := 18) rfl ?_ ?_) <;> intro hg18
   ·
    -- t18 = T
    refine QL.g rfl rfl (fun wq hq => Y.fieldAddr fo_apiCommit0 rfl) ?_
    refine QL.g rfl rfl (fun wq hq => Y.load1 Tryd.underlying23 rfl (hM1.ext hq).com0 rfl) ?_
    refine QL.g rfl rfl (fun wq hq => Y.move rfl) ?_
    refine QL.g rfl rfl (fun wq hq => Y.sub rfl rfl o2_) ?_
    refine QL.g rfl rfl (fun wq hq => Y.indexAddr Tryd.underlying23 rfl rfl sz0_apiDigest om_ om_) ?_
    refine QL.g rfl rfl (fun wq hq => Y.load Tryd.underlying30 rfl (hma.ext (hL2.thenExt hq)) (sz_apiDigest _) rfl) ?_
    refine QL.g rfl rfl (fun wq hq => Y.fieldAddr fo_apiCommit0 rfl) ?_
    refine QL.g rfl rfl (fun wq hq => Y.load1 Tryd.underlying23 rfl (hM1.ext hq).com0 rfl) ?_
    refine QL.g rfl rfl (fun wq hq => Y.move rfl) ?_
    refine QL.g rfl rfl (fun wq hq => Y.indexAddrN Tryd.underlying23 rfl rfl sz0_apiDigest om_) ?_
    refine QL.g rfl rfl (fun wq hq => Y.load Tryd.underlying30 rfl (hmb.ext (hL2.thenExt hq)) (sz_apiDigest _) rfl) ?_
    refine QL.gcall rfl rfl Tryd.func47 rfl rfl rfl (fun wq hq => ret_ext (less_any _ _ _) hq) de_ ?_
    refine QL.g rfl rfl (fun wq hq => Y.not rfl) ?_
    refine QL.v (fun wq hq => Y.pick rfl rfl) ?_
    refine QL.nil fun wq hq => ⟨⟨_, rfl, ?_⟩, hq, Fr.okp⟩
    exact tst_ok
   ·
    -- t18 = F
    refine QL.o rfl rfl ?_
    refine QL.o rfl rfl ?_
    refine QL.o rfl rfl ?_
    refine QL.o rfl rfl ?_
    refine QL.o rfl rfl ?_
    refine QL.o rfl rfl ?_
    refine QL.o rfl rfl ?_
    refine QL.o rfl rfl ?_
    refine QL.o rfl rfl ?_
    refine QL.o rfl rfl ?_
    refine QL.o rfl rfl ?_
    refine QL.o rfl rfl ?_
    refine QL.o rfl rfl ?_
    refine QL.v (fun wq hq => Y.pick rfl rfl) ?_
    refine QL.nil fun wq hq => ⟨⟨_, rfl, ?_⟩, hq, Fr.okp⟩
    exact tst_ok
  intro w3 hx3; have hM1 := hM1.ext hx3
  (first | refine cd_ rfl ?_ ?_ | refine ce_ rfl ?_ ?_ | refine cn_ rfl ?_ ?_ | refine cb_ rfl ?_ ?_) <;> intro ht13
  ·
   -- then
   refine CW.sr fun K14 hK14 => ?_
   refine WL.a rfl ?_
   refine WL.nil (hK14 _ _ ?_); try clear hK14
   refine CW.ret ⟨_, rfl, ?_⟩
   exact ⟨by
    rw [mayI, if_neg om_, if_pos (Bool.eq_false_iff.2 fun h => ?_)]
    have h0 : ((x : Int) - 1).toNat + 1 = x := by omega
    have := (rising_iff _).1 h _ a b ha (by rw [h0]; exact hb)
    simp_all, (hL2.thenExt hx3)⟩
  refine CW.skip ?_
  refine hK11 _ _ ?_; try clear hK11
  refine CW.region ?_
  refine WL.v (Y.add rfl rfl o2_) ?_
  refine WL.m rfl ?_
  refine WL.nil ?_
  refine ⟨x + 1, by omega, (Fr.le.cons rfl (Fr.le.cons rfl (Fr.le.cons rfl Fr.le.nil))), by omega, fun i p q h hp hq => ?_, (hL2.thenExt hx3), hM1⟩
  by_cases hix : i + 1 < x
  ·
   exact hrs i p q hix hp hq
  ·
   have h0 : i + 1 = x := by omega
   have h1 : ((x : Int) - 1).toNat = i := by omega
   rw [h1, hp] at ha; rw [← h0, hq] at hb
   injection ha with ha; injection hb with hb
   subst ha; subst hb
   cases hlb : lessB p q with
   | true => rfl
   | false => simp_all
 refine CW.exit ?_
 refine hK6 _ _ ?_; try clear hK6
 refine CW.seq fun K15 hK15 => ?_
 refine CW.block ?_
 refine CW.seq fun K16 hK16 => ?_
 have hrise : risingB cm.parents = true := (rising_iff _).2 fun i p q hp hq => hrs i p q (by have := (List.getElem?_eq_some_iff.1 hq).1; omega) hp hq
 refine CW.region ?_
 refine WL.v (Y.fieldAddr fo_apiCommit1 rfl) ?_
 refine WL.v (Y.load1 Tryd.underlying9 rfl hM1.com1 rfl) ?_
 refine WL.call Tryd.func57 rfl rfl rfl ((name_any _ _ hau)) (by simp) ?_; rintro v w4 ⟨rfl, hx4⟩; have hM1 := hM1.ext hx4
 refine WL.v (Y.not rfl) ?_
 refine WL.a rfl ?_
 refine WL.nil (hK16 _ _ ?_); try clear hK16
 (first | refine cd_ rfl ?_ ?_ | refine ce_ rfl ?_ ?_ | refine cn_ rfl ?_ ?_ | refine cb_ rfl ?_ ?_) <;> intro ht17
 ·
  -- then
  refine CW.sr fun K18 hK18 => ?_
  refine WL.a rfl ?_
  refine WL.nil (hK18 _ _ ?_); try clear hK18
  refine CW.ret ⟨_, rfl, ?_⟩
  exact ⟨by rw [mayI, if_neg om_, if_neg (by simp [hrise]), if_pos (by simp_all)], (hL2.thenExt hx4)⟩
 refine CW.sr fun K19 hK19 => ?_
 refine WL.v (Y.fieldAddr fo_apiCommit2 rfl) ?_
 refine WL.v (Y.load1 Tryd.underlying9 rfl hM1.com2 rfl) ?_
 refine WL.v (Y.len_string Tryd.underlying9 rfl) ?_
 refine WL.v (Y.gtr rfl rfl) ?_
 refine WL.a rfl ?_
 refine WL.nil (hK19 _ _ ?_); try clear hK19
 (first | refine cd_ rfl ?_ ?_ | refine ce_ rfl ?_ ?_ | refine cn_ rfl ?_ ?_ | refine cb_ rfl ?_ ?_) <;> intro ht20
 ·
  -- then
  refine CW.sr fun K21 hK21 => ?_
  refine WL.a rfl ?_
  refine WL.nil (hK21 _ _ ?_); try clear hK21
  refine CW.ret ⟨_, rfl, ?_⟩
  exact ⟨by rw [mayI, if_neg om_, if_neg (by simp [hrise]), if_neg (by simp_all), if_pos om_], (hL2.thenExt hx4)⟩
 refine CW.sr fun K22 hK22 => ?_
 refine WL.v (Y.fieldAddr fo_apiCommit3 rfl) ?_
 refine WL.v (Y.load1 Tryd.underlying44 rfl hM1.com3 rfl) ?_
 refine WL.v (Y.len_slice Tryd.underlying44 rfl) ?_
 refine WL.v (Y.gtr rfl rfl) ?_
 refine WL.a rfl ?_
 refine WL.nil (hK22 _ _ ?_); try clear hK22
 (first | refine cd_ rfl ?_ ?_ | refine ce_ rfl ?_ ?_ | refine cn_ rfl ?_ ?_ | refine cb_ rfl ?_ ?_) <;> intro ht23
 ·
  -- then
  refine CW.sr fun K24 hK24 => ?_
  refine WL.a rfl ?_
  refine WL.nil (hK24 _ _ ?_); try clear hK24
  refine CW.ret ⟨_, rfl, ?_⟩
  exact ⟨by rw [mayI, if_neg om_, if_neg (by simp [hrise]), if_neg (by simp_all), if_neg om_, if_pos om_], (hL2.thenExt hx4)⟩
 refine CW.skip ?_
 refine hK15 _ _ ?_; try clear hK15
 refine CW.seq fun K25 hK25 => ?_
 refine CW.seq fun K26 hK26 => ?_
 have hm5 : mayI cm = opsErr cm.ops := by rw [mayI, if_neg om_, if_neg (by simp [hrise]), if_neg (by simp_all), if_neg om_, if_neg om_]
 refine CW.region ?_
 refine WL.v (Y.fieldAddr fo_apiCommit3 rfl) ?_
 refine WL.v (Y.load1 Tryd.underlying44 rfl hM1.com3 rfl) ?_
 refine WL.v (Y.len_slice Tryd.underlying44 rfl) ?_
 refine WL.m rfl ?_
 refine WL.nil (hK26 _ _ ?_); try clear hK26
 refine CW.block ?_
 refine CW.loop (X := Nat) (fun x => [(1, .pointer (some ⟨g1, 0, none⟩)), (51, .int .i64 (k : Int)), (52, .int .i64 (x : Int))]) (fun x w0 => x ≤ k ∧ (∀ j : Nat, j < x → rightI cm.ops (j + 1) = 0) ∧ Ext w w0 ∧ Mem w0 ⟨g1, 0, none⟩ (comC (.slice A m c) cm.author cm.note (.slice B k d))) (fun x => k - x) 0 (Fr.le.cons rfl (Fr.le.cons rfl (Fr.le.cons rfl Fr.le.nil))) ⟨by omega, fun j h => by omega, (hL2.thenExt hx4), hM1⟩ ?_
 intro x w5 hl5
 obtain ⟨hi, hrs, hL5, hM1⟩ := hl5
 refine CW.sr fun K27 hK27 => ?_
 refine WL.v (Y.lss rfl rfl) ?_
 refine WL.nil (hK27 _ _ ?_); try clear hK27
 refine CW.seq fun K28 hK28 => ?_
 (first | refine cd_ rfl ?_ ?_ | refine ce_ rfl ?_ ?_ | refine cn_ rfl ?_ ?_ | refine cb_ rfl ?_ ?_) <;> intro ht29
 ·
  -- then
  refine CW.skip ?_
  refine hK28 _ _ ?_; try clear hK28
  refine CW.seq fun K30 hK30 => ?_
  refine CW.block ?_
  refine CW.sr fun K31 hK31 => ?_
  refine WL.m rfl ?_
  refine WL.a rfl ?_
  refine WL.nil (hK31 _ _ ?_); try clear hK31
  refine CW.sr fun K32 hK32 => ?_
  refine WL.v (Y.fieldAddr fo_apiCommit3 rfl) ?_
  refine WL.v (Y.load1 Tryd.underlying44 rfl hM1.com3 rfl) ?_
  refine WL.m rfl ?_
  refine WL.v (Y.add rfl rfl o2_) ?_
  refine WL.call Tryd.func58 rfl rfl rfl ((right_any _ _ _ _ (hoS.ext hL5) o2_)) (by simp) ?_; rintro v w6 ⟨rfl, hx6⟩; have hM1 := hM1.ext hx6
  refine WL.a rfl ?_
  refine WL.nil (hK32 _ _ ?_); try clear hK32
  refine CW.sr fun K33 hK33 => ?_
  refine WL.m rfl ?_
  refine WL.v (Y.neq rfl rfl) ?_
  refine WL.nil (hK33 _ _ ?_); try clear hK33
  (first | refine cd_ rfl ?_ ?_ | refine ce_ rfl ?_ ?_ | refine cn_ rfl ?_ ?_ | refine cb_ rfl ?_ ?_) <;> intro ht34
  ·
   -- then
   refine CW.sr fun K35 hK35 => ?_
   refine WL.m rfl ?_
   refine WL.a rfl ?_
   refine WL.nil (hK35 _ _ ?_); try clear hK35
   refine CW.ret ⟨_, rfl, ?_⟩
   exact ⟨by rw [hm5, opsErr_at hrs om_ (by assumption)], (hL5.thenExt hx6)⟩
  refine CW.skip ?_
  refine hK30 _ _ ?_; try clear hK30
  refine CW.region ?_
  refine WL.v (Y.add rfl rfl o2_) ?_
  refine WL.m rfl ?_
  refine WL.nil ?_
  refine ⟨x + 1, by omega, (Fr.le.cons rfl (Fr.le.cons rfl (Fr.le.cons rfl Fr.le.nil))), by omega, fun j h => ?_, (hL5.thenExt hx6), hM1⟩
  by_cases hj : j < x
  ·
   exact hrs j hj
  ·
   obtain rfl : j = x := by omega
   simpa using (by assumption : ¬ rightI cm.ops ((j : Int) + 1) ≠ 0)
 refine CW.exit ?_
 refine hK25 _ _ ?_; try clear hK25
 refine CW.sr fun K36 hK36 => ?_
 refine WL.a rfl ?_
 refine WL.nil (hK36 _ _ ?_); try clear hK36
 refine CW.ret ⟨_, rfl, ?_⟩
 exact ⟨by rw [hm5, opsErr_end (fun j h => hrs j om_)], hL5⟩
end Go.Proofs.YtfanmpbapabboaaDoor
/- A commit's bytes: wire.put, wire.Num, wire.Text, commit.num, commit.op, commit.Encode, walked. No condition. -/
namespace Go.Proofs.YtfanmpbapabboaaDoor
open Go.RowKit Go.Fw Go.Pl
theorem u8_or (n : Nat) : IntKind.u8.wrap ((BitVec.ofInt IntKind.u8.bits (IntKind.u8.wrap (n : Int)) ||| BitVec.ofInt IntKind.u8.bits 128).toNat : Int) = ((UInt8.ofNat (n % 128 + 128)).toNat : Int) := by
 rw [show IntKind.u8.wrap (n : Int) = (((n % 256 : Nat)) : Int) by simp [IntKind.wrap, IntKind.bits, IntKind.signed]]
 have h : ∀ m, m < 256 → IntKind.u8.wrap ((BitVec.ofInt IntKind.u8.bits ((m : Nat) : Int) ||| BitVec.ofInt IntKind.u8.bits 128).toNat : Int) = ((UInt8.ofNat (m % 128 + 128)).toNat : Int) := by decide +kernel
 rw [h (n % 256) om_, Nat.mod_mod_of_dvd _ de_]
theorem shr7 (n : Nat) : ((n : Int)).fdiv (2 ^ (min (7 : Int).toNat IntKind.i64.bits)) = ((n / 128 : Nat) : Int) := by
 show ((n : Int)).fdiv 128 = _
 rw [Int.fdiv_eq_ediv_of_nonneg _ de_]
 rfl
theorem put_any (v : Value) (xs : List UInt8) (n : Nat) (w : World) (ho : Own w 5 1 v (bytesC xs)) (hr : xs.length + (vi n).length ≤ 140737488355328) : Calls Tryd.prog 50 #[v, .int .i64 (n : Int)] w (Ret fun v' w' => AppB 5 w v xs w' v' (vi n)) := by
 refine calls_of_CW 20 [4] [(0, v), (1, .int .i64 (n : Int))] Tryd.func50 rfl rfl rfl (by simp) args2 ?_
 refine CW.sr fun K1 hK1 => ?_
 refine WL.a rfl ?_
 refine WL.nil (hK1 _ _ ?_); try clear hK1
 refine CW.seq fun K2 hK2 => ?_
 refine CW.block ?_
 refine CW.loop (X := Nat × List UInt8 × Value) (fun x => [(0, x.2.2), (1, .int .i64 (x.1 : Int))]) (fun x w0 => AppB 5 w v xs w0 x.2.2 x.2.1 ∧ x.2.1 ++ vi x.1 = vi n) (fun x => x.1) (n, [], v) (Fr.le.cons rfl (Fr.le.cons rfl Fr.le.nil)) ⟨AppB.refl ho, rfl⟩ ?_
 intro x w1 hl1
 obtain ⟨n1, pre, v1⟩ := x
 dsimp only at hl1 ⊢
 obtain ⟨hA, hvi⟩ := hl1
 have hlen := congrArg List.length hvi
 simp only [List.length_append] at hlen
 try simp only [] at hlen hvi
 refine CW.seq fun K3 hK3 => ?_
 refine CW.sr fun K4 hK4 => ?_
 refine WL.m rfl ?_
 refine WL.v (Y.geq rfl rfl) ?_
 refine WL.nil (hK4 _ _ ?_); try clear hK4
 (first | refine cd_ rfl ?_ ?_ | refine ce_ rfl ?_ ?_ | refine cn_ rfl ?_ ?_ | refine cb_ rfl ?_ ?_) <;> intro ht5
 ·
  -- then
  refine CW.skip ?_
  refine hK3 _ _ ?_; try clear hK3
  refine CW.seq fun K6 hK6 => ?_
  refine CW.block ?_
  refine CW.region ?_
  refine WL.m rfl ?_
  refine WL.m rfl ?_
  refine WL.v (Y.conv_int Tryd.underlying3 Tryd.underlying5 rfl) ?_
  refine WL.v (Y.or_k rfl rfl ((u8_or n1))) ?_
  refine WL.st (St.buildSlice rfl (bs1 _)) de_ fun v13 w2 hR2 => ?_
  obtain ⟨g, rfl, hg, hB, hx⟩ := hR2
  refine WL.st (St.app Tryd.underlying32 Tryd.underlying32 ai_u8 rfl rfl ((hA.extR hx).1) (Blk.src1 hB) (by rw [vi_ge (n := n1) om_] at hlen; simp only [List.length_append, List.length_cons] at hlen ⊢; omega)) de_ fun v14 w3 hR3 => ?_
  have hA2 := (hA.extR hx).trans hR3
  refine WL.a rfl ?_
  refine WL.nil (hK6 _ _ ?_); try clear hK6
  refine CW.region ?_
  refine WL.m rfl ?_
  refine WL.v (Y.shr rfl rfl de_ (shr7 n1)) ?_
  refine WL.a rfl ?_
  refine WL.nil ?_
  refine ⟨(n1 / 128, pre ++ [UInt8.ofNat (n1 % 128 + 128)], _), by show n1 / 128 < n1; omega, (Fr.le.cons rfl (Fr.le.cons rfl Fr.le.nil)), hA2, ?_⟩
  rw [← hvi, vi_ge (n := n1) om_]
  simp
 refine CW.exit ?_
 refine hK2 _ _ ?_; try clear hK2
 refine CW.sr fun K7 hK7 => ?_
 refine WL.m rfl ?_
 refine WL.m rfl ?_
 refine WL.v (Y.conv_int Tryd.underlying3 Tryd.underlying5 rfl) ?_
 refine WL.st (St.buildSlice rfl (bs1 _)) de_ fun v18 w4 hR4 => ?_
 obtain ⟨g, rfl, hg, hB, hx⟩ := hR4
 refine WL.st (St.app Tryd.underlying32 Tryd.underlying32 ai_u8 rfl rfl ((hA.extR hx).1) (Blk.src1 (by rw [← u8_of]; exact hB)) (by rw [vi_lt (n := n1) om_] at hlen; simp only [List.length_append, List.length_cons, List.length_nil] at hlen ⊢; omega)) de_ fun v19 w5 hR5 => ?_
 have hA2 := (hA.extR hx).trans hR5
 refine WL.a rfl ?_
 refine WL.nil (hK7 _ _ ?_); try clear hK7
 refine CW.ret ⟨_, rfl, ?_⟩
 rw [← hvi, vi_lt (n := n1) om_]
 exact hA2
theorem num_any (n : Int) (w : World) (hn : n < 9223372036854775808) : Calls Tryd.prog 48 #[.int .i64 n] w (Ret fun v w' => ∃ u, v = .tuple #[u, .int .i64 (if n < 0 then 9 else 0)] ∧ AppB 5 w (.slice none 0 0) [] w' u (numB n)) := by
 refine calls_of_CW 8 [2, 3] [(0, .int .i64 n)] Tryd.func48 rfl rfl rfl (by simp) args1 ?_
 refine CW.sr fun K1 hK1 => ?_
 refine WL.a rfl ?_
 refine WL.a rfl ?_
 refine WL.nil (hK1 _ _ ?_); try clear hK1
 refine CW.seq fun K2 hK2 => ?_
 refine CW.sr fun K3 hK3 => ?_
 refine WL.m rfl ?_
 refine WL.v (Y.lss rfl rfl) ?_
 refine WL.nil (hK3 _ _ ?_); try clear hK3
 (first | refine cd_ rfl ?_ ?_ | refine ce_ rfl ?_ ?_ | refine cn_ rfl ?_ ?_ | refine cb_ rfl ?_ ?_) <;> intro ht4
 ·
  -- then
  refine CW.sr fun K5 hK5 => ?_
  refine WL.a rfl ?_
  refine WL.a rfl ?_
  refine WL.nil (hK5 _ _ ?_); try clear hK5
  refine CW.ret ⟨_, rfl, ?_⟩
  exact ⟨_, by rw [if_pos ht4], by rw [numB, if_pos ht4]; exact AppB.refl Own.nil⟩
 refine CW.skip ?_
 refine hK2 _ _ ?_; try clear hK2
 refine CW.sr fun K6 hK6 => ?_
 refine WL.m rfl ?_
 refine WL.call Tryd.func50 rfl rfl rfl ((by rw [← Int.toNat_of_nonneg (Int.not_lt.1 ht4)]; exact put_any _ [] _ _ Own.nil (by have := vi_len9 (n := n.toNat) om_; simp; omega))) (by simp) ?_; rintro v7 w1 hR1
 skip
 refine WL.a rfl ?_
 refine WL.a rfl ?_
 refine WL.nil (hK6 _ _ ?_); try clear hK6
 refine CW.ret ⟨_, rfl, ?_⟩
 exact ⟨_, by rw [if_neg ht4], by rw [numB, if_neg ht4]; exact hR1⟩
theorem text_any (s : ByteArray) (w : World) (hs : s.size ≤ 140737488355300) : Calls Tryd.prog 31 #[.string s] w (Ret fun v w' => AppB 5 w (.slice none 0 0) [] w' v (textB s.toList)) := by
 have h9 := vi_len9 (n := s.size) om_
 refine calls_of_CW 8 [2] [(0, .string s)] Tryd.func31 rfl rfl rfl (by simp) args1 ?_
 refine CW.sr fun K1 hK1 => ?_
 refine WL.a rfl ?_
 refine WL.nil (hK1 _ _ ?_); try clear hK1
 refine CW.sr fun K2 hK2 => ?_
 refine WL.m rfl ?_
 refine WL.v (Y.len_string Tryd.underlying9 rfl) ?_
 refine WL.call Tryd.func50 rfl rfl rfl ((put_any _ [] s.size _ Own.nil (by simp; omega))) (by simp) ?_; rintro v5 w1 hR1
 skip
 refine WL.m rfl ?_
 refine WL.st (St.appS Tryd.underlying32 Tryd.underlying9 ai_u8 rfl rfl hR1.1 (by simp; omega)) de_ fun v7 w2 hR2 => ?_
 skip
 refine WL.a rfl ?_
 refine WL.nil (hK2 _ _ ?_); try clear hK2
 refine CW.ret ⟨_, rfl, ?_⟩
 unfold textB
 rw [toList_length]
 exact hR1.trans hR2
end Go.Proofs.YtfanmpbapabboaaDoor
/- Reading: wire.GetNum, wire.GetText, walked. No condition. -/
namespace Go.Proofs.YtfanmpbapabboaaDoor
open Go.RowKit Go.Fw Go.Pl
def gnumV (bs : List UInt8) (at_ : Nat) : Value := match gnum bs at_ with
 | .error e => .tuple #[.int .i64 0, .int .i64 0, .int .i64 e]
 | .ok (n, nx) => .tuple #[.int .i64 (n : Int), .int .i64 (nx : Int), .int .i64 0]
theorem gnumV_of {bs : List UInt8} {at_ i s : Nat} (h : gn 0 0 (bs.drop at_) = gn i s (bs.drop (at_ + i))) : gnumV bs at_ = match gn i s (bs.drop (at_ + i)) with
 | .error e => .tuple #[.int .i64 0, .int .i64 0, .int .i64 e]
 | .ok (n, k) => .tuple #[.int .i64 (n : Int), .int .i64 ((at_ + k : Nat) : Int), .int .i64 0] := by
 unfold gnumV gnum
 rw [h]
 cases gn i s (bs.drop (at_ + i)) <;> rfl
theorem drop_at {bs : List UInt8} {j : Nat} {b : UInt8} (h : bs[j]? = some b) : bs.drop j = b :: bs.drop (j + 1) := by
 obtain ⟨hj, rfl⟩ := List.getElem?_eq_some_iff.1 h
 exact List.drop_eq_getElem_cons hj
theorem getNum_any (bv : Value) (bs : List UInt8) (at_ : Nat) (w : World) (hb : By w bv bs) (hat : at_ ≤ bs.length) : Calls Tryd.prog 51 #[bv, .int .i64 (at_ : Int)] w (Ret fun v w' => v = gnumV bs at_ ∧ Ext w w') := by
 obtain ⟨A, m, c, rfl, hl, hmc, hcm, hA, hn⟩ := hb
 unfold maxLen at hcm
 refine calls_of_CW 59 [4, 5, 6] [(0, .slice A m c), (1, .int .i64 (at_ : Int))] Tryd.func51 rfl rfl rfl (by simp) args2 ?_
 refine CW.sr fun K1 hK1 => ?_
 refine WL.a rfl ?_
 refine WL.a rfl ?_
 refine WL.a rfl ?_
 refine WL.nil (hK1 _ _ ?_); try clear hK1
 refine CW.scope (X := Nat × Nat) 0 (fun x => [(0, .slice A m c), (1, .int .i64 (at_ : Int)), (7, .int .i64 (x.1 : Int)), (8, .int .i64 (x.2 : Int))]) (fun x w0 => x.1 ≤ 8 ∧ x.2 < 128 ^ x.1 ∧ gn 0 0 (bs.drop at_) = gn x.1 x.2 (bs.drop (at_ + x.1)) ∧ Ext w w0) (fun x => 9 - x.1) rfl ?_ ?_
 ·
  intro x w1 hl1
  obtain ⟨i, s⟩ := x
  dsimp only at hl1 ⊢
  obtain ⟨hi, hs, hg, hL1⟩ := hl1
  have hV := gnumV_of hg
  refine CW.seq fun K2 hK2 => ?_
  refine CW.sr fun K3 hK3 => ?_
  refine WL.m rfl ?_
  refine WL.m rfl ?_
  refine WL.v (Y.len_slice Tryd.underlying32 rfl) ?_
  refine WL.m rfl ?_
  refine WL.v (Y.sub rfl rfl o2_) ?_
  refine WL.v (Y.geq rfl rfl) ?_
  refine WL.nil (hK3 _ _ ?_); try clear hK3
  (first | refine cd_ rfl ?_ ?_ | refine ce_ rfl ?_ ?_ | refine cn_ rfl ?_ ?_ | refine cb_ rfl ?_ ?_) <;> intro ht4
  ·
   -- then
   refine CW.sr fun K5 hK5 => ?_
   refine WL.a rfl ?_
   refine WL.a rfl ?_
   refine WL.a rfl ?_
   refine WL.nil (hK5 _ _ ?_); try clear hK5
   refine CW.ret ⟨_, rfl, ?_⟩
   exact ⟨by rw [hV, List.drop_of_length_le om_]; rfl, hL1⟩
  refine CW.skip ?_
  refine hK2 _ _ ?_; try clear hK2
  refine CW.sr fun K6 hK6 => ?_
  refine WL.m rfl ?_
  refine WL.m rfl ?_
  refine WL.m rfl ?_
  refine WL.v (Y.add rfl rfl o2_) ?_
  obtain ⟨b, hb⟩ : ∃ b, bs[at_ + i]? = some b := ⟨_, List.getElem?_eq_getElem om_⟩
  obtain ⟨a, rfl, hM⟩ := hA om_
  rw [drop_at hb, gn] at hV hg
  refine WL.v (Y.indexAddr Tryd.underlying32 rfl rfl sz0_uint8 om_ om_) ?_
  refine WL.v (Y.load1 Tryd.underlying5 rfl ((hM.ext hL1).byteAt hb om_) rfl) ?_
  refine WL.a rfl ?_
  refine WL.nil (hK6 _ _ ?_); try clear hK6
  refine CW.seq fun K7 hK7 => ?_
  refine CW.seq_test 36 (128 ≤ b.toNat ∧ i + 1 = 9) ?_ ?_
  ·
   refine CW.region ?_
   refine WL.m rfl ?_
   refine WL.v (Y.geq rfl rfl) ?_
   refine WL.m rfl ?_
   (first | refine WL.casesD (d := 32) rfl ?_ ?_ | refine WL.casesND (d := 32) rfl ?_ ?_ | refine WL.cases (d := 32) rfl ?_ ?_) <;> intro hg32
   ·
    -- t32 = T
    refine WL.g rfl rfl (Y.move rfl) ?_
    refine WL.g rfl rfl (Y.add rfl rfl o2_) ?_
    refine WL.g rfl rfl (Y.eql rfl rfl) ?_
    refine WL.v (Y.pick rfl rfl) ?_
    refine WL.nil ⟨⟨_, rfl, ?_⟩, rfl, Fr.okp⟩
    exact tst_ok
   ·
    -- t32 = F
    refine WL.o rfl rfl ?_
    refine WL.o rfl rfl ?_
    refine WL.o rfl rfl ?_
    refine WL.v (Y.pick rfl rfl) ?_
    refine WL.nil ⟨⟨_, rfl, ?_⟩, rfl, Fr.okp⟩
    exact tst_ok
  (first | refine cd_ rfl ?_ ?_ | refine ce_ rfl ?_ ?_ | refine cn_ rfl ?_ ?_ | refine cb_ rfl ?_ ?_) <;> intro ht8
  ·
   -- then
   refine CW.sr fun K9 hK9 => ?_
   refine WL.a rfl ?_
   refine WL.a rfl ?_
   refine WL.a rfl ?_
   refine WL.nil (hK9 _ _ ?_); try clear hK9
   refine CW.ret ⟨_, rfl, ?_⟩
   exact ⟨by rw [hV, if_pos (by assumption)], hL1⟩
  refine CW.skip ?_
  refine hK7 _ _ ?_; try clear hK7
  refine CW.seq fun K10 hK10 => ?_
  refine CW.seq_test 42 (b.toNat = 0 ∧ 0 < i) ?_ ?_
  ·
   refine CW.region ?_
   refine WL.m rfl ?_
   refine WL.v (Y.eql rfl rfl) ?_
   refine WL.m rfl ?_
   (first | refine WL.casesD (d := 39) rfl ?_ ?_ | refine WL.casesND (d := 39) rfl ?_ ?_ | refine WL.cases (d := 39) rfl ?_ ?_) <;> intro hg39
   ·
    -- t39 = T
    refine WL.g rfl rfl (Y.move rfl) ?_
    refine WL.g rfl rfl (Y.gtr rfl rfl) ?_
    refine WL.v (Y.pick rfl rfl) ?_
    refine WL.nil ⟨⟨_, rfl, ?_⟩, rfl, Fr.okp⟩
    exact tst_ok
   ·
    -- t39 = F
    refine WL.o rfl rfl ?_
    refine WL.o rfl rfl ?_
    refine WL.v (Y.pick rfl rfl) ?_
    refine WL.nil ⟨⟨_, rfl, ?_⟩, rfl, Fr.okp⟩
    exact tst_ok
  (first | refine cd_ rfl ?_ ?_ | refine ce_ rfl ?_ ?_ | refine cn_ rfl ?_ ?_ | refine cb_ rfl ?_ ?_) <;> intro ht11
  ·
   -- then
   refine CW.sr fun K12 hK12 => ?_
   refine WL.a rfl ?_
   refine WL.a rfl ?_
   refine WL.a rfl ?_
   refine WL.nil (hK12 _ _ ?_); try clear hK12
   refine CW.ret ⟨_, rfl, ?_⟩
   exact ⟨by rw [hV, if_neg (by assumption), if_pos (by assumption)], hL1⟩
  refine CW.skip ?_
  refine hK10 _ _ ?_; try clear hK10
  refine CW.sr fun K13 hK13 => ?_
  refine WL.m rfl ?_
  refine WL.m rfl ?_
  refine WL.v (Y.and_k rfl rfl (and127 b)) ?_
  refine WL.v (Y.conv_nat Tryd.underlying5 Tryd.underlying3 rfl om_) ?_
  refine WL.m rfl ?_
  refine WL.v (Y.mul rfl rfl o2_) ?_
  refine WL.v (Y.shl rfl rfl om_ (shl_at om_ hi)) ?_
  refine WL.v (Y.or_k rfl rfl (or_at hs om_ hi)) ?_
  refine WL.a rfl ?_
  refine WL.nil (hK13 _ _ ?_); try clear hK13
  refine CW.sr fun K14 hK14 => ?_
  refine WL.m rfl ?_
  refine WL.v (Y.add rfl rfl o2_) ?_
  refine WL.a rfl ?_
  refine WL.nil (hK14 _ _ ?_); try clear hK14
  refine CW.seq fun K15 hK15 => ?_
  refine CW.sr fun K16 hK16 => ?_
  refine WL.m rfl ?_
  refine WL.v (Y.geq rfl rfl) ?_
  refine WL.nil (hK16 _ _ ?_); try clear hK16
  (first | refine cd_ rfl ?_ ?_ | refine ce_ rfl ?_ ?_ | refine cn_ rfl ?_ ?_ | refine cb_ rfl ?_ ?_) <;> intro ht17
  ·
   -- then
   refine CW.goto ?_
   refine ⟨rfl, (i + 1, s + b.toNat % 128 * 128 ^ i), by show 9 - (i + 1) < 9 - i; omega, Fr.ok, by show i + 1 ≤ 8; omega, (low_high hs om_ hi).1, ?_, hL1⟩
   show gn 0 0 _ = gn (i + 1) (s + b.toNat % 128 * 128 ^ i) (bs.drop (at_ + (i + 1)))
   rw [hg, if_neg (by assumption), if_neg (by assumption), if_pos om_]
   rfl
  refine CW.skip ?_
  refine hK15 _ _ ?_; try clear hK15
  refine CW.sr fun K18 hK18 => ?_
  refine WL.m rfl ?_
  refine WL.m rfl ?_
  refine WL.m rfl ?_
  refine WL.v (Y.add rfl rfl o2_) ?_
  refine WL.a rfl ?_
  refine WL.a rfl ?_
  refine WL.a rfl ?_
  refine WL.nil (hK18 _ _ ?_); try clear hK18
  refine CW.ret ⟨_, rfl, ?_⟩
  exact ⟨by rw [hV, if_neg (by assumption), if_neg (by assumption), if_neg om_]; rfl, hL1⟩
 ·
  intro hT
  refine CW.seq fun K19 hK19 => ?_
  refine CW.seq_test 17 ((at_ : Int) < 0 ∨ (m : Int) < at_) ?_ ?_
  ·
   refine CW.region ?_
   refine WL.m rfl ?_
   refine WL.v (Y.lss rfl rfl) ?_
   refine WL.m rfl ?_
   (first | refine WL.casesD (d := 12) rfl ?_ ?_ | refine WL.casesND (d := 12) rfl ?_ ?_ | refine WL.cases (d := 12) rfl ?_ ?_) <;> intro hg12
   ·
    -- t12 = T
    refine WL.o rfl rfl ?_
    refine WL.o rfl rfl ?_
    refine WL.o rfl rfl ?_
    refine WL.o rfl rfl ?_
    refine WL.v (Y.pick rfl rfl) ?_
    refine WL.nil ⟨⟨_, rfl, ?_⟩, rfl, Fr.okp⟩
    exact tst_ok
   ·
    -- t12 = F
    refine WL.g rfl rfl (Y.move rfl) ?_
    refine WL.g rfl rfl (Y.move rfl) ?_
    refine WL.g rfl rfl (Y.len_slice Tryd.underlying32 rfl) ?_
    refine WL.g rfl rfl (Y.gtr rfl rfl) ?_
    refine WL.v (Y.pick rfl rfl) ?_
    refine WL.nil ⟨⟨_, rfl, ?_⟩, rfl, Fr.okp⟩
    exact tst_ok
  (first | refine cd_ rfl ?_ ?_ | refine ce_ rfl ?_ ?_ | refine cn_ rfl ?_ ?_ | refine cb_ rfl ?_ ?_) <;> intro ht20
  ·
   -- then
   refine CW.sr fun K21 hK21 => ?_
   refine WL.a rfl ?_
   refine WL.a rfl ?_
   refine WL.a rfl ?_
   refine WL.nil (hK21 _ _ ?_); try clear hK21
   refine CW.ret ⟨_, rfl, ?_⟩
   exfalso; omega
  refine CW.skip ?_
  refine hK19 _ _ ?_; try clear hK19
  refine CW.sr fun K22 hK22 => ?_
  refine WL.a rfl ?_
  refine WL.nil (hK22 _ _ ?_); try clear hK22
  refine CW.sr fun K23 hK23 => ?_
  refine WL.a rfl ?_
  refine WL.nil (hK23 _ _ ?_); try clear hK23
  exact hT _ _ (0, 0) Fr.ok ⟨Nat.zero_le _, (by show 0 < 128 ^ 0; decide), rfl, Chg.refl⟩
theorem gnumV_t (bs : List UInt8) (at_ : Nat) : gnumV bs at_ = .tuple #[.int .i64 (gN bs at_), .int .i64 (gX bs at_), .int .i64 (gE bs at_)] := by
 unfold gnumV gN gX gE
 cases gnum bs at_ <;> rfl
theorem getNum_t (bv : Value) (bs : List UInt8) (at_ : Nat) (w : World) (hb : By w bv bs) (hat : at_ ≤ bs.length) : Calls Tryd.prog 51 #[bv, .int .i64 (at_ : Int)] w (Ret fun v w' => v = .tuple #[.int .i64 (gN bs at_), .int .i64 (gX bs at_), .int .i64 (gE bs at_)] ∧ Ext w w') := by
 rw [← gnumV_t]; exact getNum_any bv bs at_ w hb hat
theorem getText_any (bv : Value) (bs_ : List UInt8) (at_ : Nat) (w : World) (hb : By w bv bs_) (hat : at_ ≤ bs_.length) : Calls Tryd.prog 53 #[bv, .int .i64 (at_ : Int)] w (Ret fun v w' => v = .tuple #[.string (bs (gtT bs_ at_)), .int .i64 (gtX bs_ at_), .int .i64 (gtE bs_ at_)] ∧ Ext w w') := by
 have hb0 := hb
 obtain ⟨A, m, c, rfl, hl, hmc, hcm, hA, hn⟩ := hb
 unfold maxLen at hcm
 refine calls_of_CW 39 [4, 5, 6] [(0, .slice A m c), (1, .int .i64 (at_ : Int))] Tryd.func53 rfl rfl rfl (by simp) args2 ?_
 refine CW.sr fun K1 hK1 => ?_
 refine WL.a rfl ?_
 refine WL.a rfl ?_
 refine WL.a rfl ?_
 refine WL.nil (hK1 _ _ ?_); try clear hK1
 refine CW.sr fun K2 hK2 => ?_
 refine WL.m rfl ?_
 refine WL.m rfl ?_
 refine WL.call Tryd.func51 rfl rfl rfl ((getNum_t _ bs_ at_ _ hb0 hat)) (by simp) ?_; rintro v w1 ⟨rfl, hx1⟩
 refine WL.m rfl ?_
 refine WL.v (Y.extract rfl rfl) ?_
 refine WL.v (Y.extract rfl rfl) ?_
 refine WL.v (Y.extract rfl rfl) ?_
 refine WL.a rfl ?_
 refine WL.a rfl ?_
 refine WL.a rfl ?_
 refine WL.nil (hK2 _ _ ?_); try clear hK2
 refine CW.seq fun K3 hK3 => ?_
 refine CW.block ?_
 refine CW.sr fun K4 hK4 => ?_
 refine WL.m rfl ?_
 refine WL.v (Y.neq rfl rfl) ?_
 refine WL.a rfl ?_
 refine WL.nil (hK4 _ _ ?_); try clear hK4
 (first | refine cd_ rfl ?_ ?_ | refine ce_ rfl ?_ ?_ | refine cn_ rfl ?_ ?_ | refine cb_ rfl ?_ ?_) <;> intro ht5
 ·
  -- then
  refine CW.sr fun K6 hK6 => ?_
  refine WL.m rfl ?_
  refine WL.a rfl ?_
  refine WL.a rfl ?_
  refine WL.a rfl ?_
  refine WL.nil (hK6 _ _ ?_); try clear hK6
  refine CW.ret ⟨_, rfl, ?_⟩
  have h2 := gt_of_error (gtext_bad (gE_ne ht5).1)
  exact ⟨by rw [h2.1, h2.2.1, h2.2.2]; rfl, hx1⟩
 refine CW.seq fun K7 hK7 => ?_
 obtain ⟨n, nx, hg, hN, hX⟩ := gE_zero (Decidable.not_not.1 ht5)
 rw [hN, hX]
 have hlen := gnum_len hg hat
 refine CW.region ?_
 refine WL.m rfl ?_
 refine WL.v (Y.gtr rfl rfl) ?_
 refine WL.a rfl ?_
 refine WL.nil (hK7 _ _ ?_); try clear hK7
 (first | refine cd_ rfl ?_ ?_ | refine ce_ rfl ?_ ?_ | refine cn_ rfl ?_ ?_ | refine cb_ rfl ?_ ?_) <;> intro ht8
 ·
  -- then
  refine CW.sr fun K9 hK9 => ?_
  refine WL.a rfl ?_
  refine WL.a rfl ?_
  refine WL.a rfl ?_
  refine WL.nil (hK9 _ _ ?_); try clear hK9
  refine CW.ret ⟨_, rfl, ?_⟩
  have h2 := gt_of_error (bs := bs_) (at_ := at_) (e := 3) (by rw [gtext_num hg, if_pos om_])
  exact ⟨by rw [h2.1, h2.2.1, h2.2.2]; rfl, hx1⟩
 refine CW.sr fun K10 hK10 => ?_
 refine WL.m rfl ?_
 refine WL.m rfl ?_
 refine WL.v (Y.len_slice Tryd.underlying32 rfl) ?_
 refine WL.m rfl ?_
 refine WL.v (Y.sub rfl rfl o2_) ?_
 refine WL.v (Y.gtr rfl rfl) ?_
 refine WL.a rfl ?_
 refine WL.nil (hK10 _ _ ?_); try clear hK10
 (first | refine cd_ rfl ?_ ?_ | refine ce_ rfl ?_ ?_ | refine cn_ rfl ?_ ?_ | refine cb_ rfl ?_ ?_) <;> intro ht11
 ·
  -- then
  refine CW.sr fun K12 hK12 => ?_
  refine WL.a rfl ?_
  refine WL.a rfl ?_
  refine WL.a rfl ?_
  refine WL.nil (hK12 _ _ ?_); try clear hK12
  refine CW.ret ⟨_, rfl, ?_⟩
  have h2 := gt_of_error (bs := bs_) (at_ := at_) (e := 8) (by rw [gtext_num hg, if_neg om_, if_pos om_])
  exact ⟨by rw [h2.1, h2.2.1, h2.2.2]; rfl, hx1⟩
 refine CW.skip ?_
 refine hK3 _ _ ?_; try clear hK3
 refine CW.sr fun K13 hK13 => ?_
 refine WL.m rfl ?_
 refine WL.m rfl ?_
 refine WL.m rfl ?_
 refine WL.m rfl ?_
 refine WL.v (Y.add rfl rfl o2_) ?_
 obtain ⟨a, rfl, hM⟩ := hA om_
 refine WL.v (Y.slice_sl (i := nx) (j := nx + n) Tryd.underlying32 rfl rfl rfl sz0_uint8 om_ om_) ?_
 refine WL.v (Y.bytes_string Tryd.underlying32 Tryd.underlying5 Tryd.underlying9 rfl (show ((bs_.drop nx).take n).length = _ by rw [List.length_take, List.length_drop]; omega) (fun h0 => ⟨_, rfl, by have := By.slMem (hM.ext hx1) hl hmc (i := nx) (j := nx + n) om_ om_; rwa [Nat.add_sub_cancel_left] at this⟩) (fun h => by cases h)) ?_
 refine WL.m rfl ?_
 refine WL.m rfl ?_
 refine WL.v (Y.add rfl rfl o2_) ?_
 refine WL.a rfl ?_
 refine WL.a rfl ?_
 refine WL.a rfl ?_
 refine WL.nil (hK13 _ _ ?_); try clear hK13
 refine CW.ret ⟨_, rfl, ?_⟩
 have h2 := gt_of_ok (bs := bs_) (at_ := at_) (t := (bs_.drop nx).take n) (nx := nx + n) (by rw [gtext_num hg, if_neg om_, if_neg om_])
 exact ⟨by rw [h2.1, h2.2.1, h2.2.2]; rfl, hx1⟩
end Go.Proofs.YtfanmpbapabboaaDoor
/- The reader of a commit: commit.place's methods, walked. No condition. -/
namespace Go.Proofs.YtfanmpbapabboaaDoor
open Go.RowKit Go.Fw Go.Pl
theorem sz_place : (Tryd.prog.info? 69).map (·.size) = some 2 := by kernel_rfl
theorem sz_u8s : (Tryd.prog.info? 32).map (·.size) = some 1 := by kernel_rfl
theorem fo_commitplace0 : FieldOff Tryd.prog 69 0 0 := ⟨_, _, 1, Tryd.underlying69, rfl, sz_u8s, by decide, rfl⟩
theorem fo_commitplace1 : FieldOff Tryd.prog 69 1 1 := ⟨_, _, 1, Tryd.underlying69, rfl, sz_int, by decide, rfl⟩
theorem fo_commitreader0 : FieldOff Tryd.prog 71 0 0 := ⟨_, _, 2, Tryd.underlying71, rfl, sz_place, by decide, rfl⟩
theorem fo_commitreader1 : FieldOff Tryd.prog 71 1 2 := ⟨_, _, 4, Tryd.underlying71, rfl, sz_com, by decide, rfl⟩
abbrev pan (e : Int) : List PanicEntry := [{ v := .iface 24 (.int .i64 e), recovered := false }]
abbrev RdR {α : Type} (o : Except Int (α × Nat)) (val : α → Value) (g : Nat) (t : TypeId) (bv : Value) (rest : List Value) (w : World) (v : Value) (w' : World) : Prop :=
 ∃ x nx, o = .ok (x, nx) ∧ v = val x ∧ Chg (· = g) w w' ∧ Blk w' g t (bv :: .int .i64 (nx : Int) :: rest)
abbrev RdS {α : Type} (o : Except Int (α × Nat)) (g : Nat) (w : World) (ch : List PanicEntry) (w' : World) : Prop := ∃ e, o = .error e ∧ ch = pan e ∧ Chg (· = g) w w'
theorem refuse_any (p : Value) (b : Bool) (e : Int) (w : World) : Calls Tryd.prog 40 #[p, .bool b, .int .i64 e] w (RetOr (fun v w' => b = false ∧ v = .tuple #[] ∧ Ext w w') (fun ch w' => b = true ∧ ch = pan e ∧ Ext w w')) := by
 refine calls_of_CW_or 9 [] [(0, p), (1, .bool b), (2, .int .i64 e)] Tryd.func40 rfl rfl rfl (by simp) args3 ?_
 refine CW.sr fun K1 hK1 => ?_
 refine WL.m rfl ?_
 refine WL.nil (hK1 _ _ ?_); try clear hK1
 (first | refine cd_ rfl ?_ ?_ | refine ce_ rfl ?_ ?_ | refine cn_ rfl ?_ ?_ | refine cb_ rfl ?_ ?_) <;> intro ht2
 ·
  -- then
  refine CW.region ?_
  refine WL.m rfl ?_
  refine WL.v (Y.makeIface kr_ rfl) ?_
  refine WL.panicI rfl ?_
  exact ⟨by assumption, rfl, Chg.refl⟩
 refine CW.skip ?_
 refine ⟨_, rfl, ?_⟩
 exact ⟨by assumption, rfl, Chg.refl⟩
theorem pnum_any (g : Nat) (t : TypeId) (bv : Value) (bs_ : List UInt8) (at_ : Nat) (rest : List Value) (w : World) (hB : Blk w g t (bv :: .int .i64 (at_ : Int) :: rest)) (hb : By w bv bs_) (hbg : bs_ ≠ [] → ∀ k, bv.ownBlock = some k → k ≠ g) (hat : at_ ≤ bs_.length) : Calls Tryd.prog 39 #[.pointer (some ⟨g, 0, none⟩)] w (RetOr (RdR (gnum bs_ at_) (fun n => .int .i64 (n : Int)) g t bv rest w) (RdS (gnum bs_ at_) g w)) := by
 have hM0 := hB.mem
 refine calls_of_CW_or 29 [2] [(0, .pointer (some ⟨g, 0, none⟩))] Tryd.func39 rfl rfl rfl (by simp) args1 ?_
 refine CW.sr fun K1 hK1 => ?_
 refine WL.a rfl ?_
 refine WL.nil (hK1 _ _ ?_); try clear hK1
 refine CW.seq fun K2 hK2 => ?_
 refine CW.quiet (fun wq => Ext w wq) kr_ kr_ Chg.drew ?_
 refine QL.m rfl ?_
 refine QL.v (fun wq hq => Y.nilCheck rfl) ?_
 refine QL.v (fun wq hq => Y.fieldAddr fo_commitplace0 rfl) ?_
 refine QL.v (fun wq hq => Y.load1 Tryd.underlying32 rfl (hM0.ext hq).place0 rfl) ?_
 refine QL.m rfl ?_
 refine QL.v (fun wq hq => Y.nilCheck rfl) ?_
 refine QL.v (fun wq hq => Y.fieldAddr fo_commitplace1 rfl) ?_
 refine QL.v (fun wq hq => Y.load1 Tryd.underlying3 rfl (hM0.ext hq).place1 rfl) ?_
 refine QL.call Tryd.func51 rfl rfl rfl (fun wq hq => ret_ext (getNum_t _ bs_ at_ _ (hb.ext hq) hat) hq) (by simp) ?_
 refine QL.m rfl ?_
 refine QL.v (fun wq hq => Y.extract rfl rfl) ?_
 refine QL.v (fun wq hq => Y.extract rfl rfl) ?_
 refine QL.v (fun wq hq => Y.extract rfl rfl) ?_
 refine QL.a rfl ?_
 refine QL.a rfl ?_
 refine QL.a rfl ?_
 refine QL.nil fun w1 hx1 => ?_
 have hM0 := hM0.ext hx1
 have hB := hB.ext hx1
 have hb := hb.ext hx1
 refine hK2 _ _ ?_; try clear hK2
 refine CW.sr fun K3 hK3 => ?_
 refine WL.m rfl ?_
 refine WL.m rfl ?_
 refine WL.v (Y.neq rfl rfl) ?_
 refine WL.m rfl ?_
 refine WL.callOr Tryd.func40 rfl rfl rfl (refuse_any _ _ _ _) (by simp) (fun ch w2 hP2 => ?_) ?_
 ·
  skip
  obtain ⟨h1, rfl, hx⟩ := hP2
  exact (⟨_, (gE_ne (of_decide_eq_true h1)).1, rfl, Ext.chg (Chg.thenExt hx1 hx)⟩ : RdS (gnum bs_ at_) g w _ _)
 rintro v23 w2 hR2
 obtain ⟨h1, rfl, hx2⟩ := hR2
 obtain ⟨n, nx, hg, hN, hX⟩ := gE_zero (Decidable.not_not.1 (of_decide_eq_false h1))
 rw [hN, hX]
 have hB := hB.ext hx2
 refine WL.nil (hK3 _ _ ?_); try clear hK3
 refine CW.sr fun K4 hK4 => ?_
 refine WL.m rfl ?_
 refine WL.m rfl ?_
 refine WL.v (Y.nilCheck rfl) ?_
 refine WL.v (Y.fieldAddr fo_commitplace1 rfl) ?_
 refine WL.store (pre := [bv]) (old := [.int .i64 (at_ : Int)]) (post := rest) (new := [.int .i64 (nx : Int)]) rfl rfl rfl rfl kr_ hB ln_ (one1 rfl) (fun w3 hc3 hB3_ => ?_)
 skip
 refine WL.nil (hK4 _ _ ?_); try clear hK4
 refine CW.sr fun K5 hK5 => ?_
 refine WL.m rfl ?_
 refine WL.a rfl ?_
 refine WL.nil (hK5 _ _ ?_); try clear hK5
 refine CW.ret ⟨_, rfl, ?_⟩
 exact ⟨n, nx, hg, rfl, (Ext.chg (hx1.thenExt hx2)).trans hc3 (fun _ _ h => h), hB3_⟩
theorem ptext_any (g : Nat) (t : TypeId) (bv : Value) (bs_ : List UInt8) (at_ : Nat) (rest : List Value) (w : World) (hB : Blk w g t (bv :: .int .i64 (at_ : Int) :: rest)) (hb : By w bv bs_) (hbg : bs_ ≠ [] → ∀ k, bv.ownBlock = some k → k ≠ g) (hat : at_ ≤ bs_.length) : Calls Tryd.prog 42 #[.pointer (some ⟨g, 0, none⟩)] w (RetOr (RdR (gtext bs_ at_) (fun l => .string (bs l)) g t bv rest w) (RdS (gtext bs_ at_) g w)) := by
 have hM0 := hB.mem
 refine calls_of_CW_or 29 [2] [(0, .pointer (some ⟨g, 0, none⟩))] Tryd.func42 rfl rfl rfl (by simp) args1 ?_
 refine CW.sr fun K1 hK1 => ?_
 refine WL.a rfl ?_
 refine WL.nil (hK1 _ _ ?_); try clear hK1
 refine CW.seq fun K2 hK2 => ?_
 refine CW.quiet (fun wq => Ext w wq) kr_ kr_ Chg.drew ?_
 refine QL.m rfl ?_
 refine QL.v (fun wq hq => Y.nilCheck rfl) ?_
 refine QL.v (fun wq hq => Y.fieldAddr fo_commitplace0 rfl) ?_
 refine QL.v (fun wq hq => Y.load1 Tryd.underlying32 rfl (hM0.ext hq).place0 rfl) ?_
 refine QL.m rfl ?_
 refine QL.v (fun wq hq => Y.nilCheck rfl) ?_
 refine QL.v (fun wq hq => Y.fieldAddr fo_commitplace1 rfl) ?_
 refine QL.v (fun wq hq => Y.load1 Tryd.underlying3 rfl (hM0.ext hq).place1 rfl) ?_
 refine QL.call Tryd.func53 rfl rfl rfl (fun wq hq => ret_ext (getText_any _ bs_ at_ _ (hb.ext hq) hat) hq) (by simp) ?_
 refine QL.m rfl ?_
 refine QL.v (fun wq hq => Y.extract rfl rfl) ?_
 refine QL.v (fun wq hq => Y.extract rfl rfl) ?_
 refine QL.v (fun wq hq => Y.extract rfl rfl) ?_
 refine QL.a rfl ?_
 refine QL.a rfl ?_
 refine QL.a rfl ?_
 refine QL.nil fun w1 hx1 => ?_
 have hM0 := hM0.ext hx1
 have hB := hB.ext hx1
 have hb := hb.ext hx1
 refine hK2 _ _ ?_; try clear hK2
 refine CW.sr fun K3 hK3 => ?_
 refine WL.m rfl ?_
 refine WL.m rfl ?_
 refine WL.v (Y.neq rfl rfl) ?_
 refine WL.m rfl ?_
 refine WL.callOr Tryd.func40 rfl rfl rfl (refuse_any _ _ _ _) (by simp) (fun ch w2 hP2 => ?_) ?_
 ·
  skip
  obtain ⟨h1, rfl, hx⟩ := hP2
  exact (⟨_, gtE_ne (of_decide_eq_true h1), rfl, Ext.chg (Chg.thenExt hx1 hx)⟩ : RdS (gtext bs_ at_) g w _ _)
 rintro v23 w2 hR2
 obtain ⟨h1, rfl, hx2⟩ := hR2
 obtain ⟨n, nx, hg, hN, hX⟩ := gtE_zero (Decidable.not_not.1 (of_decide_eq_false h1))
 rw [hN, hX]
 have hB := hB.ext hx2
 refine WL.nil (hK3 _ _ ?_); try clear hK3
 refine CW.sr fun K4 hK4 => ?_
 refine WL.m rfl ?_
 refine WL.m rfl ?_
 refine WL.v (Y.nilCheck rfl) ?_
 refine WL.v (Y.fieldAddr fo_commitplace1 rfl) ?_
 refine WL.store (pre := [bv]) (old := [.int .i64 (at_ : Int)]) (post := rest) (new := [.int .i64 (nx : Int)]) rfl rfl rfl rfl kr_ hB ln_ (one1 rfl) (fun w3 hc3 hB3_ => ?_)
 skip
 refine WL.nil (hK4 _ _ ?_); try clear hK4
 refine CW.sr fun K5 hK5 => ?_
 refine WL.m rfl ?_
 refine WL.a rfl ?_
 refine WL.nil (hK5 _ _ ?_); try clear hK5
 refine CW.ret ⟨_, rfl, ?_⟩
 exact ⟨n, nx, hg, rfl, (Ext.chg (hx1.thenExt hx2)).trans hc3 (fun _ _ h => h), hB3_⟩
theorem pbytes_any (g : Nat) (t : TypeId) (bv : Value) (bs_ : List UInt8) (at_ n : Nat) (rest : List Value) (w : World) (hB : Blk w g t (bv :: .int .i64 (at_ : Int) :: rest)) (hb : By w bv bs_) (hbg : bs_ ≠ [] → ∀ k, bv.ownBlock = some k → k ≠ g) (hat : at_ ≤ bs_.length) (hn0 : 0 < n) (hn : n ≤ 32) : Calls Tryd.prog 56 #[.pointer (some ⟨g, 0, none⟩), .int .i64 (n : Int)] w (RetOr (fun v w' => at_ + n ≤ bs_.length ∧ ∃ a c, v = .slice (some a) n c ∧ Mem w' a (bytesC ((bs_.drop at_).take n)) ∧ Chg (· = g) w w' ∧ Blk w' g t (bv :: .int .i64 ((at_ + n : Nat) : Int) :: rest)) (fun ch w' => bs_.length < at_ + n ∧ ch = pan 8 ∧ Chg (· = g) w w')) := by
 have hM0 := hB.mem
 have hb0 := hb
 obtain ⟨A, m, c, rfl, hl, hmc, hcm, hA, hnn⟩ := hb0
 unfold maxLen at hcm
 refine calls_of_CW_or 42 [4] [(0, .pointer (some ⟨g, 0, none⟩)), (1, .int .i64 (n : Int))] Tryd.func56 rfl rfl rfl (by simp) args2 ?_
 refine CW.sr fun K1 hK1 => ?_
 refine WL.a rfl ?_
 refine WL.nil (hK1 _ _ ?_); try clear hK1
 refine CW.seq fun K2 hK2 => ?_
 refine CW.held (fun wq => Ext w wq) kr_ 14 rfl fun w1 hS => ?_
 refine RH.tk 0 hS rfl (fun wq hq => Y.move rfl) ?_
 refine RH.tk 1 hS rfl (fun wq hq => Y.move rfl) ?_
 refine RH.tk 2 hS rfl (fun wq hq => Y.move rfl) ?_
 refine RH.tk 3 hS rfl (fun wq hq => Y.nilCheck rfl) ?_
 refine RH.tk 4 hS rfl (fun wq hq => Y.fieldAddr fo_commitplace0 rfl) ?_
 refine RH.tk 5 hS rfl (fun wq hq => Y.load1 Tryd.underlying32 rfl (hM0.ext hq).place0 rfl) ?_
 refine RH.tk 6 hS rfl (fun wq hq => Y.len_slice Tryd.underlying32 rfl) ?_
 refine RH.tk 7 hS rfl (fun wq hq => Y.move rfl) ?_
 refine RH.tk 8 hS rfl (fun wq hq => Y.nilCheck rfl) ?_
 refine RH.tk 9 hS rfl (fun wq hq => Y.fieldAddr fo_commitplace1 rfl) ?_
 refine RH.tk 10 hS rfl (fun wq hq => Y.load1 Tryd.underlying3 rfl (hM0.ext hq).place1 rfl) ?_
 refine RH.tk 11 hS rfl (fun wq hq => Y.sub rfl rfl o2_) ?_
 refine RH.tk 12 hS rfl (fun wq hq => Y.gtr rfl rfl) ?_
 refine RH.one 13 kr_ ?_
 refine RS.callOr rfl Tryd.func40 rfl rfl rfl (refuse_any _ _ _ _) (by simp) (fun ch w2 hP2 => ?_) ?_
 ·
  skip
  obtain ⟨h1, rfl, hx⟩ := hP2
  have := of_decide_eq_true h1
  exact (⟨by omega, rfl, Ext.chg (Chg.thenExt hS hx)⟩ : bs_.length < at_ + n ∧ _ = pan 8 ∧ Chg (· = g) w _)
 rintro v18 w2 hR2
 obtain ⟨h1, rfl, hx2⟩ := hR2
 have hS := hS.thenExt hx2
 have hle := of_decide_eq_false h1
 refine ⟨hS, ?_⟩
 refine RH.done kr_ ?_
 have hx3 := hS; have hM0 := hM0.ext hx3; have hB := hB.ext hx3; have hb := hb.ext hx3
 refine hK2 _ _ ?_; try clear hK2
 refine CW.sr fun K3 hK3 => ?_
 refine WL.m rfl ?_
 refine WL.v (Y.nilCheck rfl) ?_
 refine WL.v (Y.fieldAddr fo_commitplace1 rfl) ?_
 refine WL.v (Y.load1 Tryd.underlying3 rfl hM0.place1 rfl) ?_
 refine WL.m rfl ?_
 refine WL.v (Y.add rfl rfl o2_) ?_
 refine WL.v (Y.nilCheck rfl) ?_
 refine WL.v (Y.fieldAddr fo_commitplace1 rfl) ?_
 refine WL.store (pre := [.slice A m c]) (old := [.int .i64 (at_ : Int)]) (post := rest) (new := [.int .i64 ((at_ : Int) + (n : Int))]) rfl rfl rfl rfl kr_ hB ln_ (one1 rfl) (fun w4 hc4 hB4_ => ?_)
 have hM0 : Mem w4 ⟨g, 0, none⟩ (.slice A m c :: .int .i64 ((at_ : Int) + (n : Int)) :: rest) := Blk.mem hB4_
 have hb := hb.chg hc4 hbg
 have hB := hB4_
 have hb2 := hb
 obtain ⟨A2, m2, c2, e2, hl2, hmc2, _, hA2, _⟩ := hb2
 injection e2 with e2 e3 e4
 subst e2; subst e3; subst e4
 obtain ⟨a, rfl, hMb⟩ := hA2 om_
 refine WL.nil (hK3 _ _ ?_); try clear hK3
 refine CW.seq fun K4 hK4 => ?_
 refine CW.quiet (fun wq => Ext w4 wq) kr_ kr_ Chg.drew ?_
 refine QL.m rfl ?_
 refine QL.v (fun wq hq => Y.nilCheck rfl) ?_
 refine QL.v (fun wq hq => Y.fieldAddr fo_commitplace0 rfl) ?_
 refine QL.v (fun wq hq => Y.load1 Tryd.underlying32 rfl (hM0.ext hq).place0 rfl) ?_
 refine QL.m rfl ?_
 refine QL.v (fun wq hq => Y.nilCheck rfl) ?_
 refine QL.v (fun wq hq => Y.fieldAddr fo_commitplace1 rfl) ?_
 refine QL.v (fun wq hq => Y.load1 Tryd.underlying3 rfl (hM0.ext hq).place1 rfl) ?_
 refine QL.m rfl ?_
 refine QL.v (fun wq hq => Y.sub rfl rfl o2_) ?_
 refine QL.m rfl ?_
 refine QL.v (fun wq hq => Y.nilCheck rfl) ?_
 refine QL.v (fun wq hq => Y.fieldAddr fo_commitplace1 rfl) ?_
 refine QL.v (fun wq hq => Y.load1 Tryd.underlying3 rfl (hM0.ext hq).place1 rfl) ?_
 refine QL.v (fun wq hq => Y.slice_slI (i := at_) (j := at_ + n) Tryd.underlying32 rfl rfl rfl sz0_uint8 om_ om_ om_ om_) ?_
 refine QL.a rfl ?_
 refine QL.nil fun w5 hx5 => ?_
 have hM0 := hM0.ext hx5
 have hB := hB.ext hx5
 have hb := hb.ext hx5
 refine hK4 _ _ ?_; try clear hK4
 refine CW.ret ⟨_, rfl, ?_⟩
 exact ⟨by omega, if c = at_ then a else a.add (at_ * 1), c - at_, by rw [Nat.add_sub_cancel_left], by have := By.slMem (hMb.ext hx5) hl hmc (i := at_) (j := at_ + n) om_ om_; rwa [Nat.add_sub_cancel_left] at this, ((Ext.chg hx3).trans hc4 (fun _ _ h => h)).thenExt hx5, Blk.ext hB4_ hx5⟩
end Go.Proofs.YtfanmpbapabboaaDoor
