/- The first laws' functions, walked: CommitNames, CommitRights, CommitMays, CommitSames. No condition. -/
import Derived.Test.YtfbagecopapfhaaAl
set_option linter.unusedSimpArgs false
set_option linter.unusedVariables false
namespace Go.Proofs.Ytfbagecopapfhaa
open Go.RowKit Go.Fw Go.Pl
/-- The law's function returns true and nothing old is turned. -/
abbrev True_ (w : World) (v : Value) (w' : World) : Prop := v = .bool true ∧ Ext w w'

theorem names_any (s : ByteArray) (w : World) (hs : s.size ≤ maxLen) : Calls Try.prog 3 #[.string s] w (Ret (True_ w)) := by
  refine calls_of_CW 11 [2] [(0, .string s)] Try.func3 rfl rfl rfl (by simp) args1 ?_
  refine CW.seq fun K1 hK1 => ?_
  refine CW.region ?_   -- region 0
  refine WL.val (Y.assign rfl) (by decide) ?_   -- t2 := assign c(false)
  refine WL.nil ?_
  refine hK1 _ _ ?_; try clear hK1 K1
  refine CW.seq fun K2 hK2 => ?_
  refine CW.region ?_   -- region 1
  refine WL.val (Y.move rfl) (by decide) ?_   -- t3 := move t0
  refine WL.call Try.func12 rfl rfl rfl (name_any _ _ hs) (by simp) ?_; rintro v w1 ⟨rfl, hx1⟩   -- t4 := call F12(t3) : 9
  refine WL.val (Y.move rfl) (by decide) ?_   -- t5 := move t0
  refine WL.call Try.func13 rfl rfl rfl (rName_any _ _ hs) (by simp) ?_; rintro v w2 ⟨rfl, hx2⟩   -- t6 := call F13(t5) : 9
  refine WL.val (Y.eql_bool Try.underlying4 rfl rfl) (by decide) ?_   -- t7 := binOp eql 4 t4 t6 4
  refine WL.val (Y.move rfl) (by decide) ?_   -- t8 := move t7
  refine WL.know (d := 8) (u := .bool true) rfl (by rw [beq_self_eq_true]) ?_
  refine WL.gcall rfl rfl Try.func14 rfl rfl rfl (alive_any _) (by decide) ?_; rintro v w3 ⟨rfl, hx3⟩   -- t9 := call F14() :  [if 5=true]
  refine WL.val (Y.pick rfl rfl) (by decide) ?_   -- t10 := pick t8 t9 c(false)
  refine WL.val (Y.assign rfl) (by decide) ?_   -- t2 := assign t10
  refine WL.nil ?_
  refine hK2 _ _ ?_; try clear hK2 K2
  refine CW.ret ⟨_, rfl, ?_⟩
  exact ⟨rfl, ((hx1.thenExt hx2).thenExt hx3)⟩
theorem mays_any (u : Value) (c : ComD) (w : World) (hc : Com w u c) : Calls Try.prog 5 #[u] w (Ret (True_ w)) := by
  have hc0 := hc
  obtain ⟨pv, ov, rfl, _⟩ := hc
  refine calls_of_CW 11 [2] [(0, .agg (comC pv c.author c.note ov).toArray)] Try.func5 rfl rfl rfl (by simp) args1 ?_
  refine CW.seq fun K1 hK1 => ?_
  refine CW.region ?_   -- region 0
  refine WL.box rfl rfl (by decide) fun g1 w1 hx1 hg1 hB1 => ?_   -- t1 := box 31 t0
  have hM1 := hB1.mem
  refine WL.val (Y.assign rfl) (by decide) ?_   -- t2 := assign c(false)
  refine WL.nil ?_
  refine hK1 _ _ ?_; try clear hK1 K1
  refine CW.seq fun K2 hK2 => ?_
  refine CW.quiet (fun wq => Ext w1 wq) (by kernel_rfl) (by kernel_rfl) Chg.drew ?_
  refine QL.val (fun wq hq => Y.load Try.underlying31 rfl (hM1.ext hq) (sz_apiCommit _ _ _ _) rfl) (by decide) ?_   -- t3 := load 31 t1
  refine QL.call Try.func17 rfl rfl rfl (fun wq hq => ret_ext (may_any _ c _ (hc0.ext (hx1.thenExt hq))) hq) (by simp) ?_   -- t4 := call F17(t3) : 31
  refine QL.val (fun wq hq => Y.load Try.underlying31 rfl (hM1.ext hq) (sz_apiCommit _ _ _ _) rfl) (by decide) ?_   -- t5 := load 31 t1
  refine QL.call Try.func18 rfl rfl rfl (fun wq hq => ret_ext (rMay_any _ c _ (hc0.ext (hx1.thenExt hq))) hq) (by simp) ?_   -- t6 := call F18(t5) : 31
  refine QL.val (fun wq hq => Y.eql rfl rfl) (by decide) ?_   -- t7 := binOp eql 3 t4 t6 3
  refine QL.val (fun wq hq => Y.move rfl) (by decide) ?_   -- t8 := move t7
  refine QL.know (d := 8) (u := .bool true) rfl (by rw [decide_eq_true rfl]) ?_
  refine QL.gcall rfl rfl Try.func14 rfl rfl rfl (fun wq hq => ret_ext (alive_any _) hq) (by decide) ?_   -- t9 := call F14() :  [if 5=true]
  refine QL.val (fun wq hq => Y.pick rfl rfl) (by decide) ?_   -- t10 := pick t8 t9 c(false)
  refine QL.val (fun wq hq => Y.assign rfl) (by decide) ?_   -- t2 := assign t10
  refine QL.nil fun w2 hx2 => ?_
  have hM1 := hM1.ext hx2
  refine hK2 _ _ ?_; try clear hK2 K2
  refine CW.ret ⟨_, rfl, ?_⟩
  exact ⟨rfl, (hx1.thenExt hx2)⟩
theorem rights_any (lv : Value) (l : List OpD) (i : Int) (w : World) (hl : Sl w opC 37 lv l) (hi : InI64 i) (hb : l.length < 9223372036854775806) : Calls Try.prog 4 #[lv, .int .i64 i] w (Ret (True_ w)) := by
  have hl0 := hl
  obtain ⟨A, m, c, rfl, hm, hmc, hcm, _⟩ := hl
  refine calls_of_CW 30 [4] [(0, .slice A m c), (1, .int .i64 i)] Try.func4 rfl rfl rfl (by simp) args2 ?_
  refine CW.seq fun K1 hK1 => ?_
  refine CW.region ?_   -- region 0
  refine WL.val (Y.assign rfl) (by decide) ?_   -- t4 := assign c(false)
  refine WL.nil ?_
  refine hK1 _ _ ?_; try clear hK1 K1
  refine CW.seq fun K2 hK2 => ?_
  refine CW.seq fun K3 hK3 => ?_
  refine CW.region ?_   -- region 1
  refine WL.val (Y.assign rfl) (by decide) ?_   -- t5 := assign c(0:i64)
  refine WL.nil ?_
  refine hK3 _ _ ?_; try clear hK3 K3
  refine CW.block ?_   -- block 0
  refine CW.loop (X := Nat) (fun x => [(0, .slice A m c), (1, .int .i64 i), (5, .int .i64 (x : Int))]) (fun x w0 => x ≤ m + 2 ∧ Ext w w0) (fun x => m + 2 - x) 0 (by repeat (first | exact Fr.le.nil | refine Fr.le.cons rfl ?_)) ⟨Nat.zero_le _, Chg.refl⟩ ?_
  intro x w1 hl1
  obtain ⟨hx, hL1⟩ := hl1
  refine CW.seq fun K4 hK4 => ?_
  refine CW.seq fun K5 hK5 => ?_
  refine CW.region ?_   -- region 2
  refine WL.val (Y.move rfl) (by decide) ?_   -- t6 := move t5
  refine WL.val (Y.move rfl) (by decide) ?_   -- t7 := move t0
  refine WL.val (Y.len_slice Try.underlying24 rfl) (by decide) ?_   -- t8 := call len(t7) : 24
  refine WL.val (Y.add rfl rfl ⟨by omega, by omega⟩) (by decide) ?_   -- t9 := binOp add 3 t8 c(1:i64) 3
  refine WL.val (Y.leq rfl rfl) (by decide) ?_   -- t10 := binOp leq 3 t6 t9 3
  refine WL.nil ?_
  refine hK5 _ _ ?_; try clear hK5 K5
  first | refine CW.condD rfl (fun ht6 => ?_) (fun ht6 => ?_) | refine CW.condND rfl (fun ht6 => ?_) (fun ht6 => ?_) | refine CW.condN rfl (fun ht6 => ?_) (fun ht6 => ?_) | refine CW.cond rfl (fun ht6 => ?_) (fun ht6 => ?_)
  · -- then
    refine CW.skip ?_
    refine hK4 _ _ ?_; try clear hK4 K4
    refine CW.seq fun K7 hK7 => ?_
    refine CW.block ?_   -- block 1
    refine CW.seq fun K8 hK8 => ?_
    refine CW.region ?_   -- region 4
    refine WL.val (Y.move rfl) (by decide) ?_   -- t13 := move t0
    refine WL.val (Y.move rfl) (by decide) ?_   -- t14 := move t5
    refine WL.call Try.func15 rfl rfl rfl (right_any _ l _ _ (hl0.ext hL1) ⟨by omega, by omega⟩) (by simp) ?_; rintro v w2 ⟨rfl, hx2⟩   -- t15 := call F15(t13, t14) : 24,3
    refine WL.val (Y.move rfl) (by decide) ?_   -- t16 := move t0
    refine WL.val (Y.move rfl) (by decide) ?_   -- t17 := move t5
    refine WL.call Try.func16 rfl rfl rfl (rRight_any _ l _ _ (hl0.ext (hL1.thenExt hx2)) ⟨by omega, by omega⟩) (by simp) ?_; rintro v w3 ⟨rfl, hx3⟩   -- t18 := call F16(t16, t17) : 24,3
    refine WL.val (Y.neq rfl rfl) (by decide) ?_   -- t19 := binOp neq 3 t15 t18 3
    refine WL.nil ?_
    refine hK8 _ _ ?_; try clear hK8 K8
    first | refine CW.condD rfl (fun ht9 => ?_) (fun ht9 => ?_) | refine CW.condND rfl (fun ht9 => ?_) (fun ht9 => ?_) | refine CW.condN rfl (fun ht9 => ?_) (fun ht9 => ?_) | refine CW.cond rfl (fun ht9 => ?_) (fun ht9 => ?_)
    · -- then
      refine CW.seq fun K10 hK10 => ?_
      refine CW.region ?_   -- region 5
      refine WL.val (Y.assign rfl) (by decide) ?_   -- t4 := assign c(false)
      refine WL.nil ?_
      refine hK10 _ _ ?_; try clear hK10 K10
      refine CW.ret ⟨_, rfl, ?_⟩
      exact absurd rfl (by assumption)
    -- else
    refine CW.skip ?_
    refine hK7 _ _ ?_; try clear hK7 K7
    refine CW.region ?_   -- region 3
    refine WL.val (Y.move rfl) (by decide) ?_   -- t11 := move t5
    refine WL.val (Y.add rfl rfl ⟨by omega, by omega⟩) (by decide) ?_   -- t12 := binOp add 3 t11 c(1:i64) 3
    refine WL.val (Y.assign rfl) (by decide) ?_   -- t5 := assign t12
    refine WL.nil ?_
    refine ⟨x + 1, by omega, (by repeat (first | exact Fr.le.nil | refine Fr.le.cons rfl ?_)), by omega, ((hL1.thenExt hx2).thenExt hx3)⟩
  -- else
  refine CW.exit ?_   -- exit 0
  refine hK2 _ _ ?_; try clear hK2 K2
  refine CW.seq fun K11 hK11 => ?_
  refine CW.region ?_   -- region 6
  refine WL.val (Y.move rfl) (by decide) ?_   -- t20 := move t0
  refine WL.val (Y.move rfl) (by decide) ?_   -- t21 := move t1
  refine WL.call Try.func15 rfl rfl rfl (right_any _ l _ _ (hl0.ext hL1) hi) (by simp) ?_; rintro v w4 ⟨rfl, hx4⟩   -- t22 := call F15(t20, t21) : 24,3
  refine WL.val (Y.move rfl) (by decide) ?_   -- t23 := move t0
  refine WL.val (Y.move rfl) (by decide) ?_   -- t24 := move t1
  refine WL.call Try.func16 rfl rfl rfl (rRight_any _ l _ _ (hl0.ext (hL1.thenExt hx4)) hi) (by simp) ?_; rintro v w5 ⟨rfl, hx5⟩   -- t25 := call F16(t23, t24) : 24,3
  refine WL.val (Y.eql rfl rfl) (by decide) ?_   -- t26 := binOp eql 3 t22 t25 3
  refine WL.val (Y.move rfl) (by decide) ?_   -- t27 := move t26
  refine WL.know (d := 27) (u := .bool true) rfl (by rw [decide_eq_true rfl]) ?_
  refine WL.gcall rfl rfl Try.func14 rfl rfl rfl (alive_any _) (by decide) ?_; rintro v w6 ⟨rfl, hx6⟩   -- t28 := call F14() :  [if 7=true]
  refine WL.val (Y.pick rfl rfl) (by decide) ?_   -- t29 := pick t27 t28 c(false)
  refine WL.val (Y.assign rfl) (by decide) ?_   -- t4 := assign t29
  refine WL.nil ?_
  refine hK11 _ _ ?_; try clear hK11 K11
  refine CW.ret ⟨_, rfl, ?_⟩
  exact ⟨rfl, (((hL1.thenExt hx4).thenExt hx5).thenExt hx6)⟩
end Go.Proofs.Ytfbagecopapfhaa
