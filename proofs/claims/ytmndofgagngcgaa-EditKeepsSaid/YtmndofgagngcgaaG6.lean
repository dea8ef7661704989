/- Several texts as one: Ib, Rf, Nm. -/
import Derived.Shelf.Small.Strs
import Derived.Shelf.Strings.Search1
import Derived.Test.YtmndofgagngcgaaProg
import Derived.Test.YtmndofgagngcgaaTy
import Derived.Test.YtmndofgagngcgaaG1
set_option linter.unusedSimpArgs false
set_option linter.unusedVariables false
/- strings.IndexByte's contract, laid by the shelf at this program, in plain words. No condition. -/
namespace Go.Proofs.Ytmndofgagngcgaa
open Go.Shelf
end Go.Proofs.Ytmndofgagngcgaa

/- What is a Ref, an operation's root: commit.root, commit.ref, and the reference's Ref, walked; which digest comes first. No condition. -/
namespace Go.Proofs.Ytmndofgagngcgaa
open Go.RowKit Go.Fw Go.Pl

theorem root_any (r : RefD) (w : World) : Calls Try.prog 68 #[refV r] w (Ret fun v w' => v = .bool (rootB r) ∧ Ext w w') := by
  refine calls_of_CW 6 [2] [(0, refV r)] Try.func68 rfl rfl rfl (by simp) args1 ?_
  refine CW.seq fun K1 hK1 => ?_
  refine CW.region ?_
  refine WL.box rfl rfl (by decide) fun g1 w1 hx1 hg1 hB1 => ?_
  have hM1 := hB1.mem
  refine WL.val (Y.assign rfl) (by decide) ?_
  refine WL.nil ?_
  refine hK1 _ _ ?_; try clear hK1 K1
  refine CW.seq fun K2 hK2 => ?_
  refine CW.region ?_
  refine WL.val (Y.load Try.underlying61 rfl hM1 (sz_apiRef _) rfl) (by decide) ?_
  refine WL.val (Y.build0 (build_apiRef _)) (by decide) ?_
  refine WL.val (Y.eql_apiRef rfl rfl) (by decide) ?_
  refine WL.val (Y.assign rfl) (by decide) ?_
  refine WL.nil ?_
  refine hK2 _ _ ?_; try clear hK2 K2
  refine CW.ret ⟨_, rfl, ?_⟩
  exact ⟨rfl, hx1⟩
theorem ref_any (r : RefD) (w : World) : Calls Try.prog 67 #[refV r] w (Ret fun v w' => v = .bool (refB r) ∧ Ext w w') := by
  refine calls_of_CW 26 [2] [(0, refV r)] Try.func67 rfl rfl rfl (by simp) args1 ?_
  refine CW.seq fun K1 hK1 => ?_
  refine CW.region ?_
  refine WL.box rfl rfl (by decide) fun g1 w1 hx1 hg1 hB1 => ?_
  have hM1 := hB1.mem
  refine WL.val (Y.assign rfl) (by decide) ?_
  refine WL.nil ?_
  refine hK1 _ _ ?_; try clear hK1 K1
  refine CW.seq fun K2 hK2 => ?_
  refine CW.block ?_
  refine CW.seq fun K3 hK3 => ?_
  refine CW.region ?_
  refine WL.val (Y.fieldAddr fo_apiRef0 rfl) (by decide) ?_
  refine WL.val (Y.load1 Try.underlying4 rfl hM1.ref0 rfl) (by decide) ?_
  refine WL.val (Y.assign rfl) (by decide) ?_
  refine WL.nil ?_
  refine hK3 _ _ ?_; try clear hK3 K3
  first | refine CW.condD rfl (fun ht4 => ?_) (fun ht4 => ?_) | refine CW.condND rfl (fun ht4 => ?_) (fun ht4 => ?_) | refine CW.condN rfl (fun ht4 => ?_) (fun ht4 => ?_) | refine CW.cond rfl (fun ht4 => ?_) (fun ht4 => ?_)
  · -- then
    refine CW.seq fun K5 hK5 => ?_
    refine CW.region ?_
    refine WL.val (Y.fieldAddr fo_apiRef1 rfl) (by decide) ?_
    refine WL.val (Y.load Try.underlying50 rfl hM1.ref1 (sz_apiDigest _) rfl) (by decide) ?_
    refine WL.val (Y.build0 (build_apiDigest _)) (by decide) ?_
    refine WL.val (Y.eql_apiDigest rfl rfl) (by decide) ?_
    refine WL.val (Y.move rfl) (by decide) ?_
    first | refine WL.casesD (d := 10) rfl (fun hg10 => ?_) (fun hg10 => ?_) | refine WL.casesND (d := 10) rfl (fun hg10 => ?_) (fun hg10 => ?_) | refine WL.cases (d := 10) rfl (fun hg10 => ?_) (fun hg10 => ?_)
    · -- t10 = T
      refine WL.gval rfl rfl (Y.fieldAddr fo_apiRef2 rfl) (by decide) ?_
      refine WL.gval rfl rfl (Y.load1 Try.underlying3 rfl hM1.ref2 rfl) (by decide) ?_
      refine WL.gval rfl rfl (Y.gtr rfl rfl) (by decide) ?_
      refine WL.val (Y.pick rfl rfl) (by decide) ?_
      refine WL.val (Y.assign rfl) (by decide) ?_
      refine WL.nil ?_
      refine hK5 _ _ ?_; try clear hK5 K5
      refine CW.ret ⟨_, rfl, ?_⟩
      exact ⟨by first | (simp_all [refB, rootB, refKind]; done) | (simp_all [refB, rootB, refKind]; omega), hx1⟩
    · -- t10 = F
      refine WL.goff rfl rfl (by decide) ?_
      refine WL.goff rfl rfl (by decide) ?_
      refine WL.goff rfl rfl (by decide) ?_
      refine WL.val (Y.pick rfl rfl) (by decide) ?_
      refine WL.val (Y.assign rfl) (by decide) ?_
      refine WL.nil ?_
      refine hK5 _ _ ?_; try clear hK5 K5
      refine CW.ret ⟨_, rfl, ?_⟩
      exact ⟨by first | (simp_all [refB, rootB, refKind]; done) | (simp_all [refB, rootB, refKind]; omega), hx1⟩
  refine CW.seq fun K6 hK6 => ?_
  refine CW.region ?_
  refine WL.val (Y.load Try.underlying61 rfl hM1 (sz_apiRef _) rfl) (by decide) ?_
  refine WL.call Try.func68 rfl rfl rfl (root_any _ _) (by simp) ?_; rintro v w2 ⟨rfl, hx2⟩; have hM1 := hM1.ext hx2
  refine WL.val (Y.assign rfl) (by decide) ?_
  refine WL.nil ?_
  refine hK6 _ _ ?_; try clear hK6 K6
  first | refine CW.condD rfl (fun ht7 => ?_) (fun ht7 => ?_) | refine CW.condND rfl (fun ht7 => ?_) (fun ht7 => ?_) | refine CW.condN rfl (fun ht7 => ?_) (fun ht7 => ?_) | refine CW.cond rfl (fun ht7 => ?_) (fun ht7 => ?_)
  · -- then
    refine CW.seq fun K8 hK8 => ?_
    refine CW.region ?_
    refine WL.val (Y.assign rfl) (by decide) ?_
    refine WL.nil ?_
    refine hK8 _ _ ?_; try clear hK8 K8
    refine CW.ret ⟨_, rfl, ?_⟩
    exact ⟨by first | (simp_all [refB, rootB, refKind]; done) | (simp_all [refB, rootB, refKind]; omega), (hx1.thenExt hx2)⟩
  refine CW.skip ?_
  refine hK2 _ _ ?_; try clear hK2 K2
  refine CW.seq fun K9 hK9 => ?_
  refine CW.region ?_
  refine WL.val (Y.fieldAddr fo_apiRef2 rfl) (by decide) ?_
  refine WL.val (Y.load1 Try.underlying3 rfl hM1.ref2 rfl) (by decide) ?_
  refine WL.val (Y.gtr rfl rfl) (by decide) ?_
  refine WL.val (Y.move rfl) (by decide) ?_
  first | refine WL.casesD (d := 21) rfl (fun hg21 => ?_) (fun hg21 => ?_) | refine WL.casesND (d := 21) rfl (fun hg21 => ?_) (fun hg21 => ?_) | refine WL.cases (d := 21) rfl (fun hg21 => ?_) (fun hg21 => ?_)
  · -- t21 = T
    refine WL.gval rfl rfl (Y.fieldAddr fo_apiRef2 rfl) (by decide) ?_
    refine WL.gval rfl rfl (Y.load1 Try.underlying3 rfl hM1.ref2 rfl) (by decide) ?_
    refine WL.gval rfl rfl (Y.leq rfl rfl) (by decide) ?_
    refine WL.val (Y.pick rfl rfl) (by decide) ?_
    refine WL.val (Y.assign rfl) (by decide) ?_
    refine WL.nil ?_
    refine hK9 _ _ ?_; try clear hK9 K9
    refine CW.ret ⟨_, rfl, ?_⟩
    exact ⟨by first | (simp_all [refB, rootB, refKind]; done) | (simp_all [refB, rootB, refKind]; omega), (hx1.thenExt hx2)⟩
  · -- t21 = F
    refine WL.goff rfl rfl (by decide) ?_
    refine WL.goff rfl rfl (by decide) ?_
    refine WL.goff rfl rfl (by decide) ?_
    refine WL.val (Y.pick rfl rfl) (by decide) ?_
    refine WL.val (Y.assign rfl) (by decide) ?_
    refine WL.nil ?_
    refine hK9 _ _ ?_; try clear hK9 K9
    refine CW.ret ⟨_, rfl, ?_⟩
    exact ⟨by first | (simp_all [refB, rootB, refKind]; done) | (simp_all [refB, rootB, refKind]; omega), (hx1.thenExt hx2)⟩
theorem rRef_any (r : RefD) (w : World) : Calls Try.prog 63 #[refV r] w (Ret fun v w' => v = .int .i64 (refKind r) ∧ Ext w w') := by
  refine calls_of_CW 31 [2] [(0, refV r)] Try.func63 rfl rfl rfl (by simp) args1 ?_
  refine CW.seq fun K1 hK1 => ?_
  refine CW.region ?_
  refine WL.box rfl rfl (by decide) fun g1 w1 hx1 hg1 hB1 => ?_
  have hM1 := hB1.mem
  refine WL.val (Y.assign rfl) (by decide) ?_
  refine WL.nil ?_
  refine hK1 _ _ ?_; try clear hK1 K1
  refine CW.seq fun K2 hK2 => ?_
  refine CW.seq fun K3 hK3 => ?_
  refine CW.region ?_
  refine WL.val (Y.fieldAddr fo_apiRef0 rfl) (by decide) ?_
  refine WL.val (Y.load1 Try.underlying4 rfl hM1.ref0 rfl) (by decide) ?_
  refine WL.nil ?_
  refine hK3 _ _ ?_; try clear hK3 K3
  first | refine CW.condD rfl (fun ht4 => ?_) (fun ht4 => ?_) | refine CW.condND rfl (fun ht4 => ?_) (fun ht4 => ?_) | refine CW.condN rfl (fun ht4 => ?_) (fun ht4 => ?_) | refine CW.cond rfl (fun ht4 => ?_) (fun ht4 => ?_)
  · -- then
    refine CW.seq fun K5 hK5 => ?_
    refine CW.seq_test 13 (r.c ≠ Dig.zero ∨ r.n < 1) ?_ ?_
    · refine CW.region ?_
      refine WL.val (Y.fieldAddr fo_apiRef1 rfl) (by decide) ?_
      refine WL.val (Y.load Try.underlying50 rfl hM1.ref1 (sz_apiDigest _) rfl) (by decide) ?_
      refine WL.val (Y.build0 (build_apiDigest _)) (by decide) ?_
      refine WL.val (Y.neq_apiDigest rfl rfl) (by decide) ?_
      refine WL.val (Y.move rfl) (by decide) ?_
      first | refine WL.casesD (d := 9) rfl (fun hg9 => ?_) (fun hg9 => ?_) | refine WL.casesND (d := 9) rfl (fun hg9 => ?_) (fun hg9 => ?_) | refine WL.cases (d := 9) rfl (fun hg9 => ?_) (fun hg9 => ?_)
      · -- t9 = T
        refine WL.goff rfl rfl (by decide) ?_
        refine WL.goff rfl rfl (by decide) ?_
        refine WL.goff rfl rfl (by decide) ?_
        refine WL.val (Y.pick rfl rfl) (by decide) ?_
        refine WL.nil ⟨⟨_, rfl, ?_⟩, rfl, (by repeat (first | exact Fr.le.refl | refine Fr.le.push rfl ?_))⟩
        first | (simp only [*, Int.natCast_inj, Bool.not_eq_true', decide_eq_false_iff_not, decide_eq_true_eq, not_true_eq_false, not_false_eq_true, true_and, false_and, and_true, and_false, false_or, or_false, true_or, or_true, iff_true, true_iff, iff_false, false_iff]; done) | (simp_all; done) | (refine congrArg Value.bool (Bool.eq_iff_iff.2 ?_); simp_all; done) | (simp_all; omega)
      · -- t9 = F
        refine WL.gval rfl rfl (Y.fieldAddr fo_apiRef2 rfl) (by decide) ?_
        refine WL.gval rfl rfl (Y.load1 Try.underlying3 rfl hM1.ref2 rfl) (by decide) ?_
        refine WL.gval rfl rfl (Y.lss rfl rfl) (by decide) ?_
        refine WL.val (Y.pick rfl rfl) (by decide) ?_
        refine WL.nil ⟨⟨_, rfl, ?_⟩, rfl, (by repeat (first | exact Fr.le.refl | refine Fr.le.push rfl ?_))⟩
        first | (simp only [*, Int.natCast_inj, Bool.not_eq_true', decide_eq_false_iff_not, decide_eq_true_eq, not_true_eq_false, not_false_eq_true, true_and, false_and, and_true, and_false, false_or, or_false, true_or, or_true, iff_true, true_iff, iff_false, false_iff]; done) | (simp_all; done) | (refine congrArg Value.bool (Bool.eq_iff_iff.2 ?_); simp_all; done) | (simp_all; omega)
    first | refine CW.condD rfl (fun ht6 => ?_) (fun ht6 => ?_) | refine CW.condND rfl (fun ht6 => ?_) (fun ht6 => ?_) | refine CW.condN rfl (fun ht6 => ?_) (fun ht6 => ?_) | refine CW.cond rfl (fun ht6 => ?_) (fun ht6 => ?_)
    · -- then
      refine CW.seq fun K7 hK7 => ?_
      refine CW.region ?_
      refine WL.val (Y.assign rfl) (by decide) ?_
      refine WL.nil ?_
      refine hK7 _ _ ?_; try clear hK7 K7
      refine CW.ret ⟨_, rfl, ?_⟩
      exact ⟨by simp only [refKind]; (repeat' split) <;> first | rfl | (simp_all; done) | (simp_all; omega), hx1⟩
 
    refine CW.skip ?_
    refine hK5 _ _ ?_; try clear hK5 K5
    refine CW.seq fun K8 hK8 => ?_
    refine CW.region ?_
    refine WL.val (Y.assign rfl) (by decide) ?_
    refine WL.nil ?_
    refine hK8 _ _ ?_; try clear hK8 K8
    refine CW.ret ⟨_, rfl, ?_⟩
    exact ⟨by simp only [refKind]; (repeat' split) <;> first | rfl | (simp_all; done) | (simp_all; omega), hx1⟩
  refine CW.skip ?_
  refine hK2 _ _ ?_; try clear hK2 K2
  refine CW.seq fun K9 hK9 => ?_
  refine CW.seq_test 21 (1 ≤ r.n ∧ r.n ≤ 2000) ?_ ?_
  · refine CW.region ?_
    refine WL.val (Y.fieldAddr fo_apiRef2 rfl) (by decide) ?_
    refine WL.val (Y.load1 Try.underlying3 rfl hM1.ref2 rfl) (by decide) ?_
    refine WL.val (Y.geq rfl rfl) (by decide) ?_
    refine WL.val (Y.move rfl) (by decide) ?_
    first | refine WL.casesD (d := 17) rfl (fun hg17 => ?_) (fun hg17 => ?_) | refine WL.casesND (d := 17) rfl (fun hg17 => ?_) (fun hg17 => ?_) | refine WL.cases (d := 17) rfl (fun hg17 => ?_) (fun hg17 => ?_)
    · -- t17 = T
      refine WL.gval rfl rfl (Y.fieldAddr fo_apiRef2 rfl) (by decide) ?_
      refine WL.gval rfl rfl (Y.load1 Try.underlying3 rfl hM1.ref2 rfl) (by decide) ?_
      refine WL.gval rfl rfl (Y.leq rfl rfl) (by decide) ?_
      refine WL.val (Y.pick rfl rfl) (by decide) ?_
      refine WL.nil ⟨⟨_, rfl, ?_⟩, rfl, (by repeat (first | exact Fr.le.refl | refine Fr.le.push rfl ?_))⟩
      first | (simp only [*, Int.natCast_inj, Bool.not_eq_true', decide_eq_false_iff_not, decide_eq_true_eq, not_true_eq_false, not_false_eq_true, true_and, false_and, and_true, and_false, false_or, or_false, true_or, or_true, iff_true, true_iff, iff_false, false_iff]; done) | (simp_all; done) | (refine congrArg Value.bool (Bool.eq_iff_iff.2 ?_); simp_all; done) | (simp_all; omega)
    · -- t17 = F
      refine WL.goff rfl rfl (by decide) ?_
      refine WL.goff rfl rfl (by decide) ?_
      refine WL.goff rfl rfl (by decide) ?_
      refine WL.val (Y.pick rfl rfl) (by decide) ?_
      refine WL.nil ⟨⟨_, rfl, ?_⟩, rfl, (by repeat (first | exact Fr.le.refl | refine Fr.le.push rfl ?_))⟩
      first | (simp only [*, Int.natCast_inj, Bool.not_eq_true', decide_eq_false_iff_not, decide_eq_true_eq, not_true_eq_false, not_false_eq_true, true_and, false_and, and_true, and_false, false_or, or_false, true_or, or_true, iff_true, true_iff, iff_false, false_iff]; done) | (simp_all; done) | (refine congrArg Value.bool (Bool.eq_iff_iff.2 ?_); simp_all; done) | (simp_all; omega)
  first | refine CW.condD rfl (fun ht10 => ?_) (fun ht10 => ?_) | refine CW.condND rfl (fun ht10 => ?_) (fun ht10 => ?_) | refine CW.condN rfl (fun ht10 => ?_) (fun ht10 => ?_) | refine CW.cond rfl (fun ht10 => ?_) (fun ht10 => ?_)
  · -- then
    refine CW.seq fun K11 hK11 => ?_
    refine CW.region ?_
    refine WL.val (Y.assign rfl) (by decide) ?_
    refine WL.nil ?_
    refine hK11 _ _ ?_; try clear hK11 K11
    refine CW.ret ⟨_, rfl, ?_⟩
    exact ⟨by simp only [refKind]; (repeat' split) <;> first | rfl | (simp_all; done) | (simp_all; omega), hx1⟩
  refine CW.skip ?_
  refine hK9 _ _ ?_; try clear hK9 K9
  refine CW.seq fun K12 hK12 => ?_
  refine CW.seq_test 30 (r.n = 0 ∧ r.c = Dig.zero) ?_ ?_
  · refine CW.region ?_
    refine WL.val (Y.fieldAddr fo_apiRef2 rfl) (by decide) ?_
    refine WL.val (Y.load1 Try.underlying3 rfl hM1.ref2 rfl) (by decide) ?_
    refine WL.val (Y.eql rfl rfl) (by decide) ?_
    refine WL.val (Y.move rfl) (by decide) ?_
    first | refine WL.casesD (d := 25) rfl (fun hg25 => ?_) (fun hg25 => ?_) | refine WL.casesND (d := 25) rfl (fun hg25 => ?_) (fun hg25 => ?_) | refine WL.cases (d := 25) rfl (fun hg25 => ?_) (fun hg25 => ?_)
    · -- t25 = T
      refine WL.gval rfl rfl (Y.fieldAddr fo_apiRef1 rfl) (by decide) ?_
      refine WL.gval rfl rfl (Y.load Try.underlying50 rfl hM1.ref1 (sz_apiDigest _) rfl) (by decide) ?_
      refine WL.gval rfl rfl (Y.build0 (build_apiDigest _)) (by decide) ?_
      refine WL.gval rfl rfl (Y.eql_apiDigest rfl rfl) (by decide) ?_
      refine WL.val (Y.pick rfl rfl) (by decide) ?_
      refine WL.nil ⟨⟨_, rfl, ?_⟩, rfl, (by repeat (first | exact Fr.le.refl | refine Fr.le.push rfl ?_))⟩
      first | (simp only [*, Int.natCast_inj, Bool.not_eq_true', decide_eq_false_iff_not, decide_eq_true_eq, not_true_eq_false, not_false_eq_true, true_and, false_and, and_true, and_false, false_or, or_false, true_or, or_true, iff_true, true_iff, iff_false, false_iff]; done) | (simp_all; done) | (refine congrArg Value.bool (Bool.eq_iff_iff.2 ?_); simp_all; done) | (simp_all; omega)
    · -- t25 = F
      refine WL.goff rfl rfl (by decide) ?_
      refine WL.goff rfl rfl (by decide) ?_
      refine WL.goff rfl rfl (by decide) ?_
      refine WL.goff rfl rfl (by decide) ?_
      refine WL.val (Y.pick rfl rfl) (by decide) ?_
      refine WL.nil ⟨⟨_, rfl, ?_⟩, rfl, (by repeat (first | exact Fr.le.refl | refine Fr.le.push rfl ?_))⟩
      first | (simp only [*, Int.natCast_inj, Bool.not_eq_true', decide_eq_false_iff_not, decide_eq_true_eq, not_true_eq_false, not_false_eq_true, true_and, false_and, and_true, and_false, false_or, or_false, true_or, or_true, iff_true, true_iff, iff_false, false_iff]; done) | (simp_all; done) | (refine congrArg Value.bool (Bool.eq_iff_iff.2 ?_); simp_all; done) | (simp_all; omega)
  first | refine CW.condD rfl (fun ht13 => ?_) (fun ht13 => ?_) | refine CW.condND rfl (fun ht13 => ?_) (fun ht13 => ?_) | refine CW.condN rfl (fun ht13 => ?_) (fun ht13 => ?_) | refine CW.cond rfl (fun ht13 => ?_) (fun ht13 => ?_)
  · -- then
    refine CW.seq fun K14 hK14 => ?_
    refine CW.region ?_
    refine WL.val (Y.assign rfl) (by decide) ?_
    refine WL.nil ?_
    refine hK14 _ _ ?_; try clear hK14 K14
    refine CW.ret ⟨_, rfl, ?_⟩
    exact ⟨by simp only [refKind]; (repeat' split) <;> first | rfl | (simp_all; done) | (simp_all; omega), hx1⟩
  refine CW.skip ?_
  refine hK12 _ _ ?_; try clear hK12 K12
  refine CW.seq fun K15 hK15 => ?_
  refine CW.region ?_
  refine WL.val (Y.assign rfl) (by decide) ?_
  refine WL.nil ?_
  refine hK15 _ _ ?_; try clear hK15 K15
  refine CW.ret ⟨_, rfl, ?_⟩
  exact ⟨by simp only [refKind]; (repeat' split) <;> first | rfl | (simp_all; done) | (simp_all; omega), hx1⟩
theorem less_any (a b : Dig) (w : World) : Calls Try.prog 58 #[digV a, digV b] w (Ret fun v w' => v = .bool (lessB a b) ∧ Ext w w') := by
  refine calls_of_CW 13 [4] [(0, digV a), (1, digV b)] Try.func58 rfl rfl rfl (by simp) args2 ?_
  refine CW.seq fun K1 hK1 => ?_
  refine CW.region ?_
  refine WL.box rfl rfl (by decide) fun g2 w1 hx1 hg2 hB2 => ?_
  have hM2 := hB2.mem
  refine WL.box rfl rfl (by decide) fun g3 w2 hx2 hg3 hB3 => ?_
  have hM3 := hB3.mem; have hM2 := hM2.ext hx2
  refine WL.val (Y.assign rfl) (by decide) ?_
  refine WL.nil ?_
  refine hK1 _ _ ?_; try clear hK1 K1
  refine CW.seq fun K2 hK2 => ?_
  refine CW.seq fun K3 hK3 => ?_
  refine CW.region ?_
  refine WL.val (Y.load Try.underlying50 rfl hM2 (sz_apiDigest _) rfl) (by decide) ?_
  refine WL.val (Y.load Try.underlying50 rfl hM3 (sz_apiDigest _) rfl) (by decide) ?_
  refine WL.val (Y.eql_apiDigest rfl rfl) (by decide) ?_
  refine WL.nil ?_
  refine hK3 _ _ ?_; try clear hK3 K3
  first | refine CW.condD rfl (fun ht4 => ?_) (fun ht4 => ?_) | refine CW.condND rfl (fun ht4 => ?_) (fun ht4 => ?_) | refine CW.condN rfl (fun ht4 => ?_) (fun ht4 => ?_) | refine CW.cond rfl (fun ht4 => ?_) (fun ht4 => ?_)
  · -- then
    refine CW.seq fun K5 hK5 => ?_
    refine CW.region ?_
    refine WL.val (Y.assign rfl) (by decide) ?_
    refine WL.nil ?_
    refine hK5 _ _ ?_; try clear hK5 K5
    refine CW.ret ⟨_, rfl, ?_⟩
    exact ⟨by simp_all [lessB, bytesLess_self], hx1.thenExt hx2⟩
  refine CW.skip ?_
  refine hK2 _ _ ?_; try clear hK2 K2
  refine CW.seq fun K6 hK6 => ?_
  refine CW.quiet (fun wq => Ext w2 wq) (by kernel_rfl) (by kernel_rfl) Chg.drew ?_
  refine QL.val (fun wq hq => Y.slice_arr Try.underlying50 rfl sz_uint8) (by decide) ?_
  refine QL.val (fun wq hq => Y.bytes_string Try.underlying96 Try.underlying5 Try.underlying9 rfl (l := a.1) a.2 (fun _ => ⟨_, rfl, hM2.ext hq⟩) (fun h => by cases h)) (by decide) ?_
  refine QL.val (fun wq hq => Y.slice_arr Try.underlying50 rfl sz_uint8) (by decide) ?_
  refine QL.val (fun wq hq => Y.bytes_string Try.underlying96 Try.underlying5 Try.underlying9 rfl (l := b.1) b.2 (fun _ => ⟨_, rfl, hM3.ext hq⟩) (fun h => by cases h)) (by decide) ?_
  refine QL.val (fun wq hq => Y.lss_string rfl rfl) (by decide) ?_
  refine QL.val (fun wq hq => Y.assign rfl) (by decide) ?_
  refine QL.nil fun w3 hx3 => ?_
  have hM2 := hM2.ext hx3
  have hM3 := hM3.ext hx3
  refine hK6 _ _ ?_; try clear hK6 K6
  refine CW.ret ⟨_, rfl, ?_⟩
  exact ⟨by simp [lessB, bs_toList], (hx1.thenExt hx2).thenExt hx3⟩
end Go.Proofs.Ytmndofgagngcgaa

/- Which texts are names: commit.Name and the reference's Name, walked; the reference's order of digests. No condition. -/
namespace Go.Proofs.Ytmndofgagngcgaa
open Go.RowKit Go.Fw Go.Pl

theorem rLess_any (a b : Dig) (w : World) : Calls Try.prog 70 #[digV a, digV b] w (Ret fun v w' => v = .bool (lessB a b) ∧ Ext w w') := by
  refine calls_of_CW 24 [4] [(0, digV a), (1, digV b)] Try.func70 rfl rfl rfl (by simp) args2 ?_
  refine CW.seq fun K1 hK1 => ?_
  refine CW.region ?_
  refine WL.box rfl rfl (by decide) fun g2 w1 hx1 hg2 hB2 => ?_
  have hM2 := hB2.mem
  refine WL.box rfl rfl (by decide) fun g3 w2 hx2 hg3 hB3 => ?_
  have hM3 := hB3.mem; have hM2 := hM2.ext hx2
  refine WL.val (Y.assign rfl) (by decide) ?_
  refine WL.nil ?_
  refine hK1 _ _ ?_; try clear hK1 K1
  refine CW.seq fun K2 hK2 => ?_
  refine CW.seq fun K3 hK3 => ?_
  refine CW.region ?_
  refine WL.val (Y.assign rfl) (by decide) ?_
  refine WL.nil ?_
  refine hK3 _ _ ?_; try clear hK3 K3
  refine CW.block ?_
  refine CW.loop (X := Nat) (fun x => [(2, .pointer (some ⟨g2, 0, none⟩)), (3, .pointer (some ⟨g3, 0, none⟩)), (5, .int .i64 (x : Int))]) (fun x w0 => x ≤ 32 ∧ a.1.take x = b.1.take x ∧ Ext w w0 ∧ Mem w0 ⟨g2, 0, none⟩ (digC a) ∧ Mem w0 ⟨g3, 0, none⟩ (digC b)) (fun x => 32 - x) 0 (Fr.le.cons rfl (Fr.le.cons rfl (Fr.le.cons rfl Fr.le.nil))) ⟨by omega, rfl, (hx1.thenExt hx2), hM2, hM3⟩ ?_
  intro x w3 hl3
  obtain ⟨hi, htk, hL3, hM2, hM3⟩ := hl3
  have ha := a.2
  have hb := b.2
  refine CW.seq fun K4 hK4 => ?_
  refine CW.seq fun K5 hK5 => ?_
  refine CW.region ?_
  refine WL.val (Y.move rfl) (by decide) ?_
  refine WL.val (Y.lss rfl rfl) (by decide) ?_
  refine WL.nil ?_
  refine hK5 _ _ ?_; try clear hK5 K5
  first | refine CW.condD rfl (fun ht6 => ?_) (fun ht6 => ?_) | refine CW.condND rfl (fun ht6 => ?_) (fun ht6 => ?_) | refine CW.condN rfl (fun ht6 => ?_) (fun ht6 => ?_) | refine CW.cond rfl (fun ht6 => ?_) (fun ht6 => ?_)
  · -- then
    refine CW.skip ?_
    refine hK4 _ _ ?_; try clear hK4 K4
    refine CW.seq fun K7 hK7 => ?_
    refine CW.block ?_
    refine CW.seq fun K8 hK8 => ?_
    refine CW.quiet (fun wq => Ext w3 wq) (by kernel_rfl) (by kernel_rfl) Chg.drew ?_
    refine QL.val (fun wq hq => Y.move rfl) (by decide) ?_
    refine QL.val (fun wq hq => Y.indexAddrAN Try.underlying50 rfl rfl sz0_uint8 (by omega)) (by decide) ?_
    refine QL.val (fun wq hq => Y.load1 Try.underlying5 rfl ((hM2.ext hq).digAt (i := x) (by omega)) rfl) (by decide) ?_
    refine QL.val (fun wq hq => Y.move rfl) (by decide) ?_
    refine QL.val (fun wq hq => Y.indexAddrAN Try.underlying50 rfl rfl sz0_uint8 (by omega)) (by decide) ?_
    refine QL.val (fun wq hq => Y.load1 Try.underlying5 rfl ((hM3.ext hq).digAt (i := x) (by omega)) rfl) (by decide) ?_
    refine QL.val (fun wq hq => Y.neq rfl rfl) (by decide) ?_
    refine QL.nil fun w4 hx4 => ?_
    have hM2 := hM2.ext hx4
    have hM3 := hM3.ext hx4
    refine hK8 _ _ ?_; try clear hK8 K8
    first | refine CW.condD rfl (fun ht9 => ?_) (fun ht9 => ?_) | refine CW.condND rfl (fun ht9 => ?_) (fun ht9 => ?_) | refine CW.condN rfl (fun ht9 => ?_) (fun ht9 => ?_) | refine CW.cond rfl (fun ht9 => ?_) (fun ht9 => ?_)
    · -- then
      refine CW.seq fun K10 hK10 => ?_
      refine CW.quiet (fun wq => Ext w4 wq) (by kernel_rfl) (by kernel_rfl) Chg.drew ?_
      refine QL.val (fun wq hq => Y.move rfl) (by decide) ?_
      refine QL.val (fun wq hq => Y.indexAddrAN Try.underlying50 rfl rfl sz0_uint8 (by omega)) (by decide) ?_
      refine QL.val (fun wq hq => Y.load1 Try.underlying5 rfl ((hM2.ext hq).digAt (i := x) (by omega)) rfl) (by decide) ?_
      refine QL.val (fun wq hq => Y.move rfl) (by decide) ?_
      refine QL.val (fun wq hq => Y.indexAddrAN Try.underlying50 rfl rfl sz0_uint8 (by omega)) (by decide) ?_
      refine QL.val (fun wq hq => Y.load1 Try.underlying5 rfl ((hM3.ext hq).digAt (i := x) (by omega)) rfl) (by decide) ?_
      refine QL.val (fun wq hq => Y.lss rfl rfl) (by decide) ?_
      refine QL.val (fun wq hq => Y.assign rfl) (by decide) ?_
      refine QL.nil fun w5 hx5 => ?_
      have hM2 := hM2.ext hx5
      have hM3 := hM3.ext hx5
      refine hK10 _ _ ?_; try clear hK10 K10
      refine CW.ret ⟨_, rfl, ?_⟩
      refine ⟨?_, ((hL3.thenExt hx4).thenExt hx5)⟩
      have := bytesLess_at (i := x) htk (List.getElem?_eq_getElem (by omega)) (List.getElem?_eq_getElem (by omega)) (fun e => ht9 (by rw [e]))
      rw [lessB, this]
      congr 1
      simp [UInt8.lt_iff_toNat_lt]
 
    refine CW.skip ?_
    refine hK7 _ _ ?_; try clear hK7 K7
    refine CW.region ?_
    refine WL.val (Y.move rfl) (by decide) ?_
    refine WL.val (Y.add rfl rfl ⟨by omega, by omega⟩) (by decide) ?_
    refine WL.val (Y.assign rfl) (by decide) ?_
    refine WL.nil ?_
    refine ⟨x + 1, by omega, (Fr.le.cons rfl (Fr.le.cons rfl (Fr.le.cons rfl Fr.le.nil))), by omega, ?_, (hL3.thenExt hx4), hM2, hM3⟩
    rw [take_succ (List.getElem?_eq_getElem (by omega)), take_succ (List.getElem?_eq_getElem (by omega)), htk]
    congr 2
    exact UInt8.toNat_inj.1 (by omega)
  refine CW.exit ?_
  refine hK2 _ _ ?_; try clear hK2 K2
  refine CW.seq fun K11 hK11 => ?_
  refine CW.region ?_
  refine WL.val (Y.assign rfl) (by decide) ?_
  refine WL.nil ?_
  refine hK11 _ _ ?_; try clear hK11 K11
  refine CW.ret ⟨_, rfl, ?_⟩
  refine ⟨?_, hL3⟩
  have : a = b := by
    apply Subtype.ext
    rw [← List.take_of_length_le (l := a.1) (i := x) (by omega), ← List.take_of_length_le (l := b.1) (i := x) (by omega), htk]
  simp [this, lessB, bytesLess_self]
end Go.Proofs.Ytmndofgagngcgaa
