/- What is a Ref, an operation's root: commit.root, commit.ref, and the reference's Ref, walked; which digest comes first. No condition. -/
import Derived.Test.YtkbmlnkoejlgmaaDoorTy
import Derived.Test.YtkbmlnkoejlgmaaDoorPl
set_option linter.unusedSimpArgs false
set_option linter.unusedVariables false
namespace Go.Proofs.YtkbmlnkoejlgmaaDoor
open Go.RowKit Go.Fw Go.Pl

theorem less_any (a b : Dig) (w : World) : Calls Tryd.prog 39 #[digV a, digV b] w (Ret fun v w' => v = .bool (lessB a b) ∧ Ext w w') := by
  refine calls_of_CW 13 [4] [(0, digV a), (1, digV b)] Tryd.func39 rfl rfl rfl (by simp) args2 ?_
  refine CW.seq fun K1 hK1 => ?_
  refine CW.region ?_   -- region 0
  refine WL.box rfl rfl (by decide) fun g2 w1 hx1 hg2 hB2 => ?_   -- t2 := box 28 t0
  have hM2 := hB2.mem
  refine WL.box rfl rfl (by decide) fun g3 w2 hx2 hg3 hB3 => ?_   -- t3 := box 28 t1
  have hM3 := hB3.mem; have hM2 := hM2.ext hx2
  refine WL.val (Y.assign rfl) (by decide) ?_   -- t4 := assign c(false)
  refine WL.nil ?_
  refine hK1 _ _ ?_; try clear hK1 K1
  refine CW.seq fun K2 hK2 => ?_
  refine CW.seq fun K3 hK3 => ?_
  refine CW.region ?_   -- region 1
  refine WL.val (Y.load Tryd.underlying28 rfl hM2 (sz_apiDigest _) rfl) (by decide) ?_   -- t5 := load 28 t2
  refine WL.val (Y.load Tryd.underlying28 rfl hM3 (sz_apiDigest _) rfl) (by decide) ?_   -- t6 := load 28 t3
  refine WL.val (Y.eql_apiDigest rfl rfl) (by decide) ?_   -- t7 := binOp eql 28 t5 t6 28
  refine WL.nil ?_
  refine hK3 _ _ ?_; try clear hK3 K3
  first | refine CW.condD rfl (fun ht4 => ?_) (fun ht4 => ?_) | refine CW.condND rfl (fun ht4 => ?_) (fun ht4 => ?_) | refine CW.condN rfl (fun ht4 => ?_) (fun ht4 => ?_) | refine CW.cond rfl (fun ht4 => ?_) (fun ht4 => ?_)
  · -- then
    refine CW.seq fun K5 hK5 => ?_
    refine CW.region ?_   -- region 2
    refine WL.val (Y.assign rfl) (by decide) ?_   -- t4 := assign c(false)
    refine WL.nil ?_
    refine hK5 _ _ ?_; try clear hK5 K5
    refine CW.ret ⟨_, rfl, ?_⟩
    exact ⟨by simp_all [lessB, bytesLess_self], hx1.thenExt hx2⟩
  -- else
  refine CW.skip ?_
  refine hK2 _ _ ?_; try clear hK2 K2
  refine CW.seq fun K6 hK6 => ?_
  refine CW.quiet (fun wq => Ext w2 wq) (by kernel_rfl) (by kernel_rfl) Chg.drew ?_
  refine QL.val (fun wq hq => Y.slice_arr Tryd.underlying28 rfl sz_uint8) (by decide) ?_   -- t8 := slice 28 t2 none none none
  refine QL.val (fun wq hq => Y.bytes_string Tryd.underlying26 Tryd.underlying5 Tryd.underlying9 rfl (l := a.1) a.2 (fun _ => ⟨_, rfl, hM2.ext hq⟩) (fun h => by cases h)) (by decide) ?_   -- t9 := convert 26 9 t8
  refine QL.val (fun wq hq => Y.slice_arr Tryd.underlying28 rfl sz_uint8) (by decide) ?_   -- t10 := slice 28 t3 none none none
  refine QL.val (fun wq hq => Y.bytes_string Tryd.underlying26 Tryd.underlying5 Tryd.underlying9 rfl (l := b.1) b.2 (fun _ => ⟨_, rfl, hM3.ext hq⟩) (fun h => by cases h)) (by decide) ?_   -- t11 := convert 26 9 t10
  refine QL.val (fun wq hq => Y.lss_string rfl rfl) (by decide) ?_   -- t12 := binOp lss 9 t9 t11 9
  refine QL.val (fun wq hq => Y.assign rfl) (by decide) ?_   -- t4 := assign t12
  refine QL.nil fun w3 hx3 => ?_
  have hM2 := hM2.ext hx3
  have hM3 := hM3.ext hx3
  refine hK6 _ _ ?_; try clear hK6 K6
  refine CW.ret ⟨_, rfl, ?_⟩
  exact ⟨by simp [lessB, bs_toList], (hx1.thenExt hx2).thenExt hx3⟩
end Go.Proofs.YtkbmlnkoejlgmaaDoor
