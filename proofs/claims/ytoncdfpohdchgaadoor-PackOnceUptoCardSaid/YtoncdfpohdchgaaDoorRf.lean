/- What is a Ref, an operation's root: commit.root, commit.ref, and the reference's Ref, walked; which digest comes first. No condition. -/
import Derived.Test.YtoncdfpohdchgaaDoorTy
import Derived.Test.YtoncdfpohdchgaaDoorPl
set_option linter.unusedSimpArgs false
set_option linter.unusedVariables false
namespace Go.Proofs.YtoncdfpohdchgaaDoor
open Go.RowKit Go.Fw Go.Pl

theorem root_any (r : RefD) (w : World) : Calls Tryd.prog 89 #[refV r] w (Ret fun v w' => v = .bool (rootB r) ∧ Ext w w') := by
  refine calls_of_CW 6 [2] [(0, refV r)] Tryd.func89 rfl rfl rfl (by simp) args1 ?_
  refine CW.seq fun K1 hK1 => ?_
  refine CW.region ?_   -- region 0
  refine WL.box rfl rfl (by decide) fun g1 w1 hx1 hg1 hB1 => ?_   -- t1 := box 130 t0
  have hM1 := hB1.mem
  refine WL.val (Y.assign rfl) (by decide) ?_   -- t2 := assign c(false)
  refine WL.nil ?_
  refine hK1 _ _ ?_; try clear hK1 K1
  refine CW.seq fun K2 hK2 => ?_
  refine CW.region ?_   -- region 1
  refine WL.val (Y.load Tryd.underlying130 rfl hM1 (sz_apiRef _) rfl) (by decide) ?_   -- t3 := load 130 t1
  refine WL.val (Y.build0 (build_apiRef _)) (by decide) ?_   -- t4 := build 130 []
  refine WL.val (Y.eql_apiRef rfl rfl) (by decide) ?_   -- t5 := binOp eql 130 t3 t4 130
  refine WL.val (Y.assign rfl) (by decide) ?_   -- t2 := assign t5
  refine WL.nil ?_
  refine hK2 _ _ ?_; try clear hK2 K2
  refine CW.ret ⟨_, rfl, ?_⟩
  exact ⟨rfl, hx1⟩
theorem ref_any (r : RefD) (w : World) : Calls Tryd.prog 88 #[refV r] w (Ret fun v w' => v = .bool (refB r) ∧ Ext w w') := by
  refine calls_of_CW 26 [2] [(0, refV r)] Tryd.func88 rfl rfl rfl (by simp) args1 ?_
  refine CW.seq fun K1 hK1 => ?_
  refine CW.region ?_   -- region 0
  refine WL.box rfl rfl (by decide) fun g1 w1 hx1 hg1 hB1 => ?_   -- t1 := box 130 t0
  have hM1 := hB1.mem
  refine WL.val (Y.assign rfl) (by decide) ?_   -- t2 := assign c(false)
  refine WL.nil ?_
  refine hK1 _ _ ?_; try clear hK1 K1
  refine CW.seq fun K2 hK2 => ?_
  refine CW.block ?_   -- block 0
  refine CW.seq fun K3 hK3 => ?_
  refine CW.region ?_   -- region 1
  refine WL.val (Y.fieldAddr fo_apiRef0 rfl) (by decide) ?_   -- t4 := fieldAddr 130 t1 0
  refine WL.val (Y.load1 Tryd.underlying4 rfl hM1.ref0 rfl) (by decide) ?_   -- t5 := load 4 t4
  refine WL.val (Y.assign rfl) (by decide) ?_   -- t3 := assign t5
  refine WL.nil ?_
  refine hK3 _ _ ?_; try clear hK3 K3
  first | refine CW.condD rfl (fun ht4 => ?_) (fun ht4 => ?_) | refine CW.condND rfl (fun ht4 => ?_) (fun ht4 => ?_) | refine CW.condN rfl (fun ht4 => ?_) (fun ht4 => ?_) | refine CW.cond rfl (fun ht4 => ?_) (fun ht4 => ?_)
  · -- then
    refine CW.seq fun K5 hK5 => ?_
    refine CW.region ?_   -- region 2
    refine WL.val (Y.fieldAddr fo_apiRef1 rfl) (by decide) ?_   -- t6 := fieldAddr 130 t1 1
    refine WL.val (Y.load Tryd.underlying31 rfl hM1.ref1 (sz_apiDigest _) rfl) (by decide) ?_   -- t7 := load 31 t6
    refine WL.val (Y.build0 (build_apiDigest _)) (by decide) ?_   -- t8 := build 31 []
    refine WL.val (Y.eql_apiDigest rfl rfl) (by decide) ?_   -- t9 := binOp eql 31 t7 t8 31
    refine WL.val (Y.move rfl) (by decide) ?_   -- t10 := move t9
    first | refine WL.casesD (d := 10) rfl (fun hg10 => ?_) (fun hg10 => ?_) | refine WL.casesND (d := 10) rfl (fun hg10 => ?_) (fun hg10 => ?_) | refine WL.cases (d := 10) rfl (fun hg10 => ?_) (fun hg10 => ?_)
    · -- t10 = T
      refine WL.gval rfl rfl (Y.fieldAddr fo_apiRef2 rfl) (by decide) ?_   -- t11 := fieldAddr 130 t1 2 [if 4=true]
      refine WL.gval rfl rfl (Y.load1 Tryd.underlying3 rfl hM1.ref2 rfl) (by decide) ?_   -- t12 := load 3 t11 [if 4=true]
      refine WL.gval rfl rfl (Y.gtr rfl rfl) (by decide) ?_   -- t13 := binOp gtr 3 t12 c(0:i64) 3 [if 4=true]
      refine WL.val (Y.pick rfl rfl) (by decide) ?_   -- t14 := pick t10 t13 c(false)
      refine WL.val (Y.assign rfl) (by decide) ?_   -- t2 := assign t14
      refine WL.nil ?_
      refine hK5 _ _ ?_; try clear hK5 K5
      refine CW.ret ⟨_, rfl, ?_⟩
      exact ⟨by first | (simp_all [refB, rootB, refKind]; done) | (simp_all [refB, rootB, refKind]; omega), hx1⟩
    · -- t10 = F
      refine WL.goff rfl rfl (by decide) ?_   -- t11 := fieldAddr 130 t1 2 [if 4=true]
      refine WL.goff rfl rfl (by decide) ?_   -- t12 := load 3 t11 [if 4=true]
      refine WL.goff rfl rfl (by decide) ?_   -- t13 := binOp gtr 3 t12 c(0:i64) 3 [if 4=true]
      refine WL.val (Y.pick rfl rfl) (by decide) ?_   -- t14 := pick t10 t13 c(false)
      refine WL.val (Y.assign rfl) (by decide) ?_   -- t2 := assign t14
      refine WL.nil ?_
      refine hK5 _ _ ?_; try clear hK5 K5
      refine CW.ret ⟨_, rfl, ?_⟩
      exact ⟨by first | (simp_all [refB, rootB, refKind]; done) | (simp_all [refB, rootB, refKind]; omega), hx1⟩
  -- else
  refine CW.seq fun K6 hK6 => ?_
  refine CW.region ?_   -- region 3
  refine WL.val (Y.load Tryd.underlying130 rfl hM1 (sz_apiRef _) rfl) (by decide) ?_   -- t16 := load 130 t1
  refine WL.call Tryd.func89 rfl rfl rfl (root_any _ _) (by simp) ?_; rintro v w2 ⟨rfl, hx2⟩; have hM1 := hM1.ext hx2   -- t17 := call F89(t16) : 130
  refine WL.val (Y.assign rfl) (by decide) ?_   -- t15 := assign t17
  refine WL.nil ?_
  refine hK6 _ _ ?_; try clear hK6 K6
  first | refine CW.condD rfl (fun ht7 => ?_) (fun ht7 => ?_) | refine CW.condND rfl (fun ht7 => ?_) (fun ht7 => ?_) | refine CW.condN rfl (fun ht7 => ?_) (fun ht7 => ?_) | refine CW.cond rfl (fun ht7 => ?_) (fun ht7 => ?_)
  · -- then
    refine CW.seq fun K8 hK8 => ?_
    refine CW.region ?_   -- region 4
    refine WL.val (Y.assign rfl) (by decide) ?_   -- t2 := assign c(true)
    refine WL.nil ?_
    refine hK8 _ _ ?_; try clear hK8 K8
    refine CW.ret ⟨_, rfl, ?_⟩
    exact ⟨by first | (simp_all [refB, rootB, refKind]; done) | (simp_all [refB, rootB, refKind]; omega), (hx1.thenExt hx2)⟩
  -- else
  refine CW.skip ?_
  refine hK2 _ _ ?_; try clear hK2 K2
  refine CW.seq fun K9 hK9 => ?_
  refine CW.region ?_   -- region 5
  refine WL.val (Y.fieldAddr fo_apiRef2 rfl) (by decide) ?_   -- t18 := fieldAddr 130 t1 2
  refine WL.val (Y.load1 Tryd.underlying3 rfl hM1.ref2 rfl) (by decide) ?_   -- t19 := load 3 t18
  refine WL.val (Y.gtr rfl rfl) (by decide) ?_   -- t20 := binOp gtr 3 t19 c(0:i64) 3
  refine WL.val (Y.move rfl) (by decide) ?_   -- t21 := move t20
  first | refine WL.casesD (d := 21) rfl (fun hg21 => ?_) (fun hg21 => ?_) | refine WL.casesND (d := 21) rfl (fun hg21 => ?_) (fun hg21 => ?_) | refine WL.cases (d := 21) rfl (fun hg21 => ?_) (fun hg21 => ?_)
  · -- t21 = T
    refine WL.gval rfl rfl (Y.fieldAddr fo_apiRef2 rfl) (by decide) ?_   -- t22 := fieldAddr 130 t1 2 [if 3=true]
    refine WL.gval rfl rfl (Y.load1 Tryd.underlying3 rfl hM1.ref2 rfl) (by decide) ?_   -- t23 := load 3 t22 [if 3=true]
    refine WL.gval rfl rfl (Y.leq rfl rfl) (by decide) ?_   -- t24 := binOp leq 3 t23 c(2000:i64) 3 [if 3=true]
    refine WL.val (Y.pick rfl rfl) (by decide) ?_   -- t25 := pick t21 t24 c(false)
    refine WL.val (Y.assign rfl) (by decide) ?_   -- t2 := assign t25
    refine WL.nil ?_
    refine hK9 _ _ ?_; try clear hK9 K9
    refine CW.ret ⟨_, rfl, ?_⟩
    exact ⟨by first | (simp_all [refB, rootB, refKind]; done) | (simp_all [refB, rootB, refKind]; omega), (hx1.thenExt hx2)⟩
  · -- t21 = F
    refine WL.goff rfl rfl (by decide) ?_   -- t22 := fieldAddr 130 t1 2 [if 3=true]
    refine WL.goff rfl rfl (by decide) ?_   -- t23 := load 3 t22 [if 3=true]
    refine WL.goff rfl rfl (by decide) ?_   -- t24 := binOp leq 3 t23 c(2000:i64) 3 [if 3=true]
    refine WL.val (Y.pick rfl rfl) (by decide) ?_   -- t25 := pick t21 t24 c(false)
    refine WL.val (Y.assign rfl) (by decide) ?_   -- t2 := assign t25
    refine WL.nil ?_
    refine hK9 _ _ ?_; try clear hK9 K9
    refine CW.ret ⟨_, rfl, ?_⟩
    exact ⟨by first | (simp_all [refB, rootB, refKind]; done) | (simp_all [refB, rootB, refKind]; omega), (hx1.thenExt hx2)⟩
theorem less_any (a b : Dig) (w : World) : Calls Tryd.prog 49 #[digV a, digV b] w (Ret fun v w' => v = .bool (lessB a b) ∧ Ext w w') := by
  refine calls_of_CW 13 [4] [(0, digV a), (1, digV b)] Tryd.func49 rfl rfl rfl (by simp) args2 ?_
  refine CW.seq fun K1 hK1 => ?_
  refine CW.region ?_   -- region 0
  refine WL.box rfl rfl (by decide) fun g2 w1 hx1 hg2 hB2 => ?_   -- t2 := box 31 t0
  have hM2 := hB2.mem
  refine WL.box rfl rfl (by decide) fun g3 w2 hx2 hg3 hB3 => ?_   -- t3 := box 31 t1
  have hM3 := hB3.mem; have hM2 := hM2.ext hx2
  refine WL.val (Y.assign rfl) (by decide) ?_   -- t4 := assign c(false)
  refine WL.nil ?_
  refine hK1 _ _ ?_; try clear hK1 K1
  refine CW.seq fun K2 hK2 => ?_
  refine CW.seq fun K3 hK3 => ?_
  refine CW.region ?_   -- region 1
  refine WL.val (Y.load Tryd.underlying31 rfl hM2 (sz_apiDigest _) rfl) (by decide) ?_   -- t5 := load 31 t2
  refine WL.val (Y.load Tryd.underlying31 rfl hM3 (sz_apiDigest _) rfl) (by decide) ?_   -- t6 := load 31 t3
  refine WL.val (Y.eql_apiDigest rfl rfl) (by decide) ?_   -- t7 := binOp eql 31 t5 t6 31
  refine WL.nil ?_
  refine hK3 _ _ ?_; try clear hK3 K3
  first | refine CW.condD rfl (fun ht4 => ?_) (fun ht4 => ?_) | refine CW.condND rfl (fun ht4 => ?_) (fun ht4 => ?_) | refine CW.condN rfl (fun ht4 => ?_) (fun ht4 => ?_) | refine CW.cond rfl (fun ht4 => ?_) (fun ht4 => ?_)
  · -- then
    refine CW.seq fun K5 hK5 => ?_
    refine CW.region ?_   -- region 2
    refine WL.val (Y.assign rfl) (by decide) ?_   -- t4 := assign c(false)
    refine WL.nil ?_
    refine hK5 _ _ ?_; try clear hK5 K5
    refine CW.ret ⟨_, rfl, ?_⟩
    exact ⟨by simp_all [lessB, bytesLess_self], hx1.thenExt hx2⟩
  -- else
  refine CW.skip ?_
  refine hK2 _ _ ?_; try clear hK2 K2
  refine CW.seq fun K6 hK6 => ?_
  refine CW.quiet (fun wq => Ext w2 wq) (by kernel_rfl) (by kernel_rfl) Chg.drew ?_
  refine QL.val (fun wq hq => Y.slice_arr Tryd.underlying31 rfl sz_uint8) (by decide) ?_   -- t8 := slice 31 t2 none none none
  refine QL.val (fun wq hq => Y.bytes_string Tryd.underlying33 Tryd.underlying5 Tryd.underlying9 rfl (l := a.1) a.2 (fun _ => ⟨_, rfl, hM2.ext hq⟩) (fun h => by cases h)) (by decide) ?_   -- t9 := convert 33 9 t8
  refine QL.val (fun wq hq => Y.slice_arr Tryd.underlying31 rfl sz_uint8) (by decide) ?_   -- t10 := slice 31 t3 none none none
  refine QL.val (fun wq hq => Y.bytes_string Tryd.underlying33 Tryd.underlying5 Tryd.underlying9 rfl (l := b.1) b.2 (fun _ => ⟨_, rfl, hM3.ext hq⟩) (fun h => by cases h)) (by decide) ?_   -- t11 := convert 33 9 t10
  refine QL.val (fun wq hq => Y.lss_string rfl rfl) (by decide) ?_   -- t12 := binOp lss 9 t9 t11 9
  refine QL.val (fun wq hq => Y.assign rfl) (by decide) ?_   -- t4 := assign t12
  refine QL.nil fun w3 hx3 => ?_
  have hM2 := hM2.ext hx3
  have hM3 := hM3.ext hx3
  refine hK6 _ _ ?_; try clear hK6 K6
  refine CW.ret ⟨_, rfl, ?_⟩
  exact ⟨by simp [lessB, bs_toList], (hx1.thenExt hx2).thenExt hx3⟩
end Go.Proofs.YtoncdfpohdchgaaDoor
