/- CommitWrites, CommitBack: the laws' functions, walked. No condition. -/
import Derived.Test.YtfbagecopapfhaaDoorTb
import Derived.Test.YtfbagecopapfhaaDoorLo
import Derived.Test.YtfbagecopapfhaaDoorAl
set_option linter.unusedSimpArgs false
set_option linter.unusedVariables false
namespace Go.Proofs.YtfbagecopapfhaaDoor
open Go.RowKit Go.Fw Go.Pl
abbrev True_ (w : World) (v : Value) (w' : World) : Prop := v = .bool true ∧ Ext w w'

theorem commitWrites_any (u : Value) (c : ComD) (w : World) (hc : Com w u c) (hK : Mem w ⟨0, 0, none⟩ (wds keysL)) (hp : c.parents.length * 32 ≤ 140737488351232) (ho : c.ops.length * 72 ≤ 140737488351232) : Calls Tryd.prog 3 #[u] w (Ret (True_ w)) := by
  have hc0 := hc
  have hC20 := hc
  obtain ⟨pv, ov, rfl, _⟩ := hc
  obtain ⟨id, hid, hzd, _⟩ := info_apiDigest
  obtain ⟨ic, hic, hzc⟩ := info_com
  refine calls_of_CW 61 [2] [(0, .agg (comC pv c.author c.note ov).toArray)] Tryd.func3 rfl rfl rfl (by simp) args1 ?_
  have hE : Ext w w := Chg.refl
  refine CW.seq fun K1 hK1 => ?_
  refine CW.region ?_   -- region 0
  refine WL.box rfl rfl (by decide) fun g1 w1 hx1 hg1 hB1 => ?_   -- t1 := box 25 t0
  have hlt1 := hB1.lt; have hz1 := hx1.size
  have hM1 := hB1.mem; have hz1 := hx1.size; have hE := hE.thenExt hx1; have hc0 := hc0.ext hx1; have hC20 := hC20.ext hx1; have hK := hK.ext hx1
  refine WL.val (Y.assign rfl) (by decide) ?_   -- t2 := assign c(false)
  refine WL.nil ?_
  refine hK1 _ _ ?_; try clear hK1 K1
  refine CW.seq fun K2 hK2 => ?_
  refine CW.region ?_   -- region 1
  refine WL.val (Y.load Tryd.underlying25 rfl hB1.mem (sz_apiCommit _ _ _ _) rfl) (by decide) ?_   -- t12 := load 25 t1
  refine WL.call Tryd.func5 rfl rfl rfl (own_any _ c _ hc0 hp ho) (by simp) ?_; rintro v13 w2 hR2   -- t13 := call F5(t12) : 25
  obtain ⟨hC2, hx2⟩ := hR2
  have hz2 := hx2.size
  have hE := hE.thenExt hx2
  have hB1 := hB1.ext hx2
  have hc0 := hc0.ext hx2
  have hK := hK.ext hx2
  have hC20 := hC2
  obtain ⟨pv2, ov2, rfl, hpp2, hoo2, _, _⟩ := hC2
  obtain ⟨Ap2, cp2, rfl, _, _⟩ := hpp2.lens
  obtain ⟨Ao2, co2, rfl, _, _⟩ := hoo2.lens
  refine as_apiCommit rfl (by simp) (by decide) fun g3 w3 hx3 hg3 hB3 => ?_   -- alloc 25; store 25 t3 t13
  have hlt3 := hB3.lt; have hz3 := hx3.size
  have hM3 := hB3.mem; have hz3 := hx3.size; have hE := hE.thenExt hx3; have hc0 := hc0.ext hx3; have hC20 := hC20.ext hx3; have hK := hK.ext hx3; have hB1 := hB1.ext hx3
  refine WL.nil ?_
  refine hK2 _ _ ?_; try clear hK2 K2
  refine CW.seq fun K3 hK3 => ?_
  refine CW.region ?_   -- region 2
  refine WL.val (Y.load Tryd.underlying25 rfl hB3.mem (sz_apiCommit _ _ _ _) rfl) (by decide) ?_   -- t15 := load 25 t3
  refine WL.call Tryd.func6 rfl rfl rfl (encode_any _ c _ hC20) (by simp) ?_; rintro v16 w4 hR4   -- t16 := call F6(t15) : 25
  obtain ⟨u4, rfl, hA4⟩ := hR4
  have hx4 := hA4.nilExt
  have hz4 := hx4.size
  have hE := hE.thenExt hx4
  have hB1 := hB1.ext hx4
  have hB3 := hB3.ext hx4
  have hc0 := hc0.ext hx4
  have hC20 := hC20.ext hx4
  have hK := hK.ext hx4
  have hO4 := hA4.nilOwn.by
  have hlt4 := hA4.nilOwn.lt
  obtain ⟨A4, m4, c4, rfl⟩ := hO4.lens
  refine WL.val (Y.move rfl) (by decide) ?_   -- t14 := move t16
  refine WL.val (Y.extract rfl rfl) (by decide) ?_   -- t17 := extract t14 0
  refine WL.val (Y.extract rfl rfl) (by decide) ?_   -- t18 := extract t14 1
  refine WL.val (Y.assign rfl) (by decide) ?_   -- t4 := assign t17
  refine WL.val (Y.assign rfl) (by decide) ?_   -- t5 := assign t18
  refine WL.nil ?_
  refine hK3 _ _ ?_; try clear hK3 K3
  refine CW.seq fun K4 hK4 => ?_
  refine CW.region ?_   -- region 3
  refine WL.val (Y.load Tryd.underlying25 rfl hB1.mem (sz_apiCommit _ _ _ _) rfl) (by decide) ?_   -- t20 := load 25 t1
  refine WL.call Tryd.func7 rfl rfl rfl (rEncode_any _ c _ hc0) (by simp) ?_; rintro v w5 ⟨rfl, hx5⟩; have hz5 := hx5.size; have hE := hE.thenExt hx5; have hc0 := hc0.ext hx5; have hC20 := hC20.ext hx5; have hK := hK.ext hx5; have hB1 := hB1.ext hx5; have hB3 := hB3.ext hx5   -- t21 := call F7(t20) : 25
  refine WL.val (Y.move rfl) (by decide) ?_   -- t19 := move t21
  refine WL.val (Y.extract rfl rfl) (by decide) ?_   -- t22 := extract t19 0
  refine WL.val (Y.extract rfl rfl) (by decide) ?_   -- t23 := extract t19 1
  refine WL.val (Y.assign rfl) (by decide) ?_   -- t6 := assign t22
  refine WL.val (Y.assign rfl) (by decide) ?_   -- t7 := assign t23
  refine WL.nil ?_
  refine hK4 _ _ ?_; try clear hK4 K4
  refine CW.seq fun K5 hK5 => ?_
  refine CW.region ?_   -- region 4
  refine WL.val (Y.load Tryd.underlying25 rfl hB3.mem (sz_apiCommit _ _ _ _) rfl) (by decide) ?_   -- t25 := load 25 t3
  refine WL.call Tryd.func8 rfl rfl rfl (id_any _ c _ hC20 hK) (by simp) ?_; rintro v w6 ⟨rfl, hx6⟩; have hz6 := hx6.size; have hE := hE.thenExt hx6; have hc0 := hc0.ext hx6; have hC20 := hC20.ext hx6; have hK := hK.ext hx6; have hB1 := hB1.ext hx6; have hB3 := hB3.ext hx6   -- t26 := call F8(t25) : 25
  refine WL.val (Y.move rfl) (by decide) ?_   -- t24 := move t26
  refine WL.val (Y.extract rfl rfl) (by decide) ?_   -- t27 := extract t24 0
  refine WL.val (Y.extract rfl rfl) (by decide) ?_   -- t28 := extract t24 1
  refine as_apiDigest rfl (by simp) (by decide) fun g8 w7 hx7 hg8 hB8 => ?_   -- alloc 34; store 34 t8 t27
  have hlt8 := hB8.lt; have hz7 := hx7.size
  have hM8 := hB8.mem; have hz7 := hx7.size; have hE := hE.thenExt hx7; have hc0 := hc0.ext hx7; have hC20 := hC20.ext hx7; have hK := hK.ext hx7; have hB1 := hB1.ext hx7; have hB3 := hB3.ext hx7
  refine WL.val (Y.assign rfl) (by decide) ?_   -- t9 := assign t28
  refine WL.nil ?_
  refine hK5 _ _ ?_; try clear hK5 K5
  refine CW.seq fun K6 hK6 => ?_
  refine CW.region ?_   -- region 5
  refine WL.val (Y.load Tryd.underlying25 rfl hB1.mem (sz_apiCommit _ _ _ _) rfl) (by decide) ?_   -- t30 := load 25 t1
  refine WL.call Tryd.func9 rfl rfl rfl (rId_any _ c _ hc0) (by simp) ?_; rintro v w8 ⟨rfl, hx8⟩; have hz8 := hx8.size; have hE := hE.thenExt hx8; have hc0 := hc0.ext hx8; have hC20 := hC20.ext hx8; have hK := hK.ext hx8; have hB1 := hB1.ext hx8; have hB3 := hB3.ext hx8; have hB8 := hB8.ext hx8   -- t31 := call F9(t30) : 25
  refine WL.val (Y.move rfl) (by decide) ?_   -- t29 := move t31
  refine WL.val (Y.extract rfl rfl) (by decide) ?_   -- t32 := extract t29 0
  refine WL.val (Y.extract rfl rfl) (by decide) ?_   -- t33 := extract t29 1
  refine as_apiDigest rfl (by simp) (by decide) fun g10 w9 hx9 hg10 hB10 => ?_   -- alloc 34; store 34 t10 t32
  have hlt10 := hB10.lt; have hz9 := hx9.size
  have hM10 := hB10.mem; have hz9 := hx9.size; have hE := hE.thenExt hx9; have hc0 := hc0.ext hx9; have hC20 := hC20.ext hx9; have hK := hK.ext hx9; have hB1 := hB1.ext hx9; have hB3 := hB3.ext hx9; have hB8 := hB8.ext hx9
  refine WL.val (Y.assign rfl) (by decide) ?_   -- t11 := assign t33
  refine WL.nil ?_
  refine hK6 _ _ ?_; try clear hK6 K6
  refine CW.seq fun K7 hK7 => ?_
  refine CW.region ?_   -- region 6
  refine WL.val (Y.move rfl) (by decide) ?_   -- t34 := move t4
  refine WL.val (Y.bytes_string Tryd.underlying27 Tryd.underlying5 Tryd.underlying9 rfl hO4.len.1 (hO4.ext (((((hx5.thenExt hx6).thenExt hx7).thenExt hx8).thenExt hx9))).mem.1 hO4.mem.2) (by decide) ?_   -- t35 := convert 27 9 t34
  refine WL.val (Y.move rfl) (by decide) ?_   -- t36 := move t6
  refine WL.val (Y.eql_string rfl rfl) (by decide) ?_   -- t37 := binOp eql 9 t35 t36 9
  refine WL.val (Y.move rfl) (by decide) ?_   -- t38 := move t37
  refine WL.know (d := 38) (u := .bool true) rfl (by rw [beq_self_eq_true]) ?_
  refine WL.gval rfl rfl (Y.move rfl) (by decide) ?_   -- t39 := move t5 [if 4=true]
  refine WL.gval rfl rfl (Y.move rfl) (by decide) ?_   -- t40 := move t7 [if 4=true]
  refine WL.gval rfl rfl (Y.eql rfl rfl) (by decide) ?_   -- t41 := binOp eql 3 t39 t40 3 [if 4=true]
  refine WL.val (Y.pick rfl rfl) (by decide) ?_   -- t42 := pick t38 t41 c(false)
  refine WL.val (Y.move rfl) (by decide) ?_   -- t43 := move t42
  refine WL.know (d := 43) (u := .bool true) rfl (by rw [decide_eq_true rfl]) ?_
  refine WL.gval rfl rfl (Y.load Tryd.underlying34 rfl hB8.mem (sz_apiDigest _) rfl) (by decide) ?_   -- t44 := load 34 t8 [if 9=true]
  refine WL.gval rfl rfl (Y.load Tryd.underlying34 rfl hB10.mem (sz_apiDigest _) rfl) (by decide) ?_   -- t45 := load 34 t10 [if 9=true]
  refine WL.gval rfl rfl (Y.eql_apiDigest rfl rfl) (by decide) ?_   -- t46 := binOp eql 34 t44 t45 34 [if 9=true]
  refine WL.val (Y.pick rfl rfl) (by decide) ?_   -- t47 := pick t43 t46 c(false)
  refine WL.val (Y.move rfl) (by decide) ?_   -- t48 := move t47
  refine WL.know (d := 48) (u := .bool true) rfl (by rw [decide_eq_true rfl]) ?_
  refine WL.gval rfl rfl (Y.move rfl) (by decide) ?_   -- t49 := move t9 [if 14=true]
  refine WL.gval rfl rfl (Y.move rfl) (by decide) ?_   -- t50 := move t11 [if 14=true]
  refine WL.gval rfl rfl (Y.eql rfl rfl) (by decide) ?_   -- t51 := binOp eql 3 t49 t50 3 [if 14=true]
  refine WL.val (Y.pick rfl rfl) (by decide) ?_   -- t52 := pick t48 t51 c(false)
  refine WL.val (Y.move rfl) (by decide) ?_   -- t53 := move t52
  refine WL.know (d := 53) (u := .bool true) rfl (by rw [decide_eq_true rfl]) ?_
  refine WL.gval rfl rfl (Y.load Tryd.underlying25 rfl hB3.mem (sz_apiCommit _ _ _ _) rfl) (by decide) ?_   -- t54 := load 25 t3 [if 19=true]
  refine WL.gval rfl rfl (Y.load Tryd.underlying25 rfl hB1.mem (sz_apiCommit _ _ _ _) rfl) (by decide) ?_   -- t55 := load 25 t1 [if 19=true]
  refine WL.gcall rfl rfl Tryd.func10 rfl rfl rfl (rSame_any _ _ c c _ hC20 hc0) (by decide) ?_; rintro v w10 ⟨rfl, hx10⟩; have hz10 := hx10.size; have hE := hE.thenExt hx10; have hc0 := hc0.ext hx10; have hC20 := hC20.ext hx10; have hK := hK.ext hx10; have hB1 := hB1.ext hx10; have hB3 := hB3.ext hx10; have hB8 := hB8.ext hx10; have hB10 := hB10.ext hx10   -- t56 := call F10(t54, t55) : 25,25 [if 19=true]
  refine WL.val (Y.pick rfl rfl) (by decide) ?_   -- t57 := pick t53 t56 c(false)
  refine WL.val (Y.move rfl) (by decide) ?_   -- t58 := move t57
  refine WL.know (d := 58) (u := .bool true) rfl (by rw [sameB_self]) ?_
  refine WL.gcall rfl rfl Tryd.func11 rfl rfl rfl (alive_any _) (by decide) ?_; rintro v w11 ⟨rfl, hx11⟩; have hz11 := hx11.size; have hE := hE.thenExt hx11; have hc0 := hc0.ext hx11; have hC20 := hC20.ext hx11; have hK := hK.ext hx11; have hB1 := hB1.ext hx11; have hB3 := hB3.ext hx11; have hB8 := hB8.ext hx11; have hB10 := hB10.ext hx11   -- t59 := call F11() :  [if 24=true]
  refine WL.val (Y.pick rfl rfl) (by decide) ?_   -- t60 := pick t58 t59 c(false)
  refine WL.val (Y.assign rfl) (by decide) ?_   -- t2 := assign t60
  refine WL.nil ?_
  refine hK7 _ _ ?_; try clear hK7 K7
  refine CW.ret ⟨_, rfl, ?_⟩
  exact ⟨rfl, hE⟩
theorem commitBack_any (u : Value) (c : ComD) (w : World) (hc : Com w u c) (hK : Mem w ⟨0, 0, none⟩ (wds keysL)) : Calls Tryd.prog 4 #[u] w (Ret (True_ w)) := by
  have hc0 := hc
  obtain ⟨pv, ov, rfl, _⟩ := hc
  obtain ⟨id, hid, hzd, _⟩ := info_apiDigest
  obtain ⟨ic, hic, hzc⟩ := info_com
  refine calls_of_CW 58 [2] [(0, .agg (comC pv c.author c.note ov).toArray)] Tryd.func4 rfl rfl rfl (by simp) args1 ?_
  have hE : Ext w w := Chg.refl
  refine CW.seq fun K1 hK1 => ?_
  refine CW.region ?_   -- region 0
  refine WL.box rfl rfl (by decide) fun g1 w1 hx1 hg1 hB1 => ?_   -- t1 := box 25 t0
  have hlt1 := hB1.lt; have hz1 := hx1.size
  have hM1 := hB1.mem; have hz1 := hx1.size; have hE := hE.thenExt hx1; have hc0 := hc0.ext hx1; have hK := hK.ext hx1
  refine WL.val (Y.assign rfl) (by decide) ?_   -- t2 := assign c(false)
  refine WL.nil ?_
  refine hK1 _ _ ?_; try clear hK1 K1
  refine CW.seq fun K2 hK2 => ?_
  refine CW.region ?_   -- region 1
  refine WL.val (Y.load Tryd.underlying25 rfl hB1.mem (sz_apiCommit _ _ _ _) rfl) (by decide) ?_   -- t10 := load 25 t1
  refine WL.call Tryd.func6 rfl rfl rfl (encode_any _ c _ hc0) (by simp) ?_; rintro v11 w2 hR2   -- t11 := call F6(t10) : 25
  obtain ⟨u2, rfl, hA2⟩ := hR2
  have hx2 := hA2.nilExt
  have hz2 := hx2.size
  have hE := hE.thenExt hx2
  have hB1 := hB1.ext hx2
  have hc0 := hc0.ext hx2
  have hK := hK.ext hx2
  have hO2 := hA2.nilOwn.by
  have hlt2 := hA2.nilOwn.lt
  obtain ⟨A2, m2, c2, rfl⟩ := hO2.lens
  refine WL.val (Y.move rfl) (by decide) ?_   -- t9 := move t11
  refine WL.val (Y.extract rfl rfl) (by decide) ?_   -- t12 := extract t9 0
  refine WL.val (Y.extract rfl rfl) (by decide) ?_   -- t13 := extract t9 1
  refine WL.val (Y.assign rfl) (by decide) ?_   -- t3 := assign t12
  refine WL.val (Y.assign rfl) (by decide) ?_   -- t4 := assign t13
  refine WL.nil ?_
  refine hK2 _ _ ?_; try clear hK2 K2
  refine CW.seq fun K3 hK3 => ?_
  refine CW.seq fun K4 hK4 => ?_
  refine CW.region ?_   -- region 2
  refine WL.val (Y.move rfl) (by decide) ?_   -- t14 := move t4
  refine WL.val (Y.neq rfl rfl) (by decide) ?_   -- t15 := binOp neq 28 t14 c(0:i64) 28
  refine WL.nil ?_
  refine hK4 _ _ ?_; try clear hK4 K4
  first | refine CW.condD rfl (fun ht5 => ?_) (fun ht5 => ?_) | refine CW.condND rfl (fun ht5 => ?_) (fun ht5 => ?_) | refine CW.condN rfl (fun ht5 => ?_) (fun ht5 => ?_) | refine CW.cond rfl (fun ht5 => ?_) (fun ht5 => ?_)
  · -- then
    refine CW.seq fun K6 hK6 => ?_
    refine CW.region ?_   -- region 3
    refine WL.val (Y.move rfl) (by decide) ?_   -- t16 := move t4
    refine WL.val (Y.load Tryd.underlying25 rfl hB1.mem (sz_apiCommit _ _ _ _) rfl) (by decide) ?_   -- t17 := load 25 t1
    refine WL.call Tryd.func12 rfl rfl rfl (may_any _ c _ hc0) (by simp) ?_; rintro v w3 ⟨rfl, hx3⟩; have hz3 := hx3.size; have hE := hE.thenExt hx3; have hc0 := hc0.ext hx3; have hK := hK.ext hx3; have hB1 := hB1.ext hx3   -- t18 := call F12(t17) : 25
    refine WL.val (Y.eql rfl rfl) (by decide) ?_   -- t19 := binOp eql 28 t16 t18 28
    refine WL.val (Y.move rfl) (by decide) ?_   -- t20 := move t19
    refine WL.know (d := 20) (u := .bool true) rfl (by rw [decide_eq_true rfl]) ?_
    refine WL.gval rfl rfl (Y.move rfl) (by decide) ?_   -- t21 := move t3 [if 4=true]
    refine WL.gval rfl rfl (Y.len_slice Tryd.underlying27 rfl) (by decide) ?_   -- t22 := call len(t21) : 27 [if 4=true]
    refine WL.gval rfl rfl (Y.eql rfl rfl) (by decide) ?_   -- t23 := binOp eql 3 t22 c(0:i64) 3 [if 4=true]
    refine WL.val (Y.pick rfl rfl) (by decide) ?_   -- t24 := pick t20 t23 c(false)
    refine WL.val (Y.move rfl) (by decide) ?_   -- t25 := move t24
    refine WL.know (d := 25) (u := .bool true) rfl (by rw [decide_eq_true (by have := hO2.len.1; rw [if_neg (by assumption)] at this; simp at this; omega)]) ?_
    refine WL.gcall rfl rfl Tryd.func11 rfl rfl rfl (alive_any _) (by decide) ?_; rintro v w4 ⟨rfl, hx4⟩; have hz4 := hx4.size; have hE := hE.thenExt hx4; have hc0 := hc0.ext hx4; have hK := hK.ext hx4; have hB1 := hB1.ext hx4   -- t26 := call F11() :  [if 9=true]
    refine WL.val (Y.pick rfl rfl) (by decide) ?_   -- t27 := pick t25 t26 c(false)
    refine WL.val (Y.assign rfl) (by decide) ?_   -- t2 := assign t27
    refine WL.nil ?_
    refine hK6 _ _ ?_; try clear hK6 K6
    refine CW.ret ⟨_, rfl, ?_⟩
    exact ⟨rfl, hE⟩
  -- else
  refine CW.skip ?_
  refine hK3 _ _ ?_; try clear hK3 K3
  refine CW.seq fun K7 hK7 => ?_
  have hm0 : mayI c = 0 := by omega
  have hd := decE_com hm0
  rw [if_pos hm0] at hA2 hO2
  refine CW.region ?_   -- region 4
  refine WL.val (Y.move rfl) (by decide) ?_   -- t29 := move t3
  refine WL.call Tryd.func13 rfl rfl rfl (decode_any _ (comB c) _ hO2) (by simp) ?_; rintro v30 w5 hR5   -- t30 := call F13(t29) : 27
  obtain ⟨pv5, ov5, rfl, hx5, hP5, hQ5, _, _⟩ := hR5
  have hz5 := hx5.size
  have hE := hE.thenExt hx5
  have hB1 := hB1.ext hx5
  have hc0 := hc0.ext hx5
  have hK := hK.ext hx5
  have hO2 := hO2.ext hx5
  have hD : Com w5 (.agg (comC pv5 (decC (comB c)).author (decC (comB c)).note ov5).toArray) (decC (comB c)) := ⟨_, _, rfl, hP5, hQ5, decC_max.1, decC_max.2⟩
  obtain ⟨Ap5, cp5, rfl, _, _⟩ := hP5.lens
  obtain ⟨Ao5, co5, rfl, _, _⟩ := hQ5.lens
  refine WL.val (Y.move rfl) (by decide) ?_   -- t28 := move t30
  refine WL.val (Y.extract rfl rfl) (by decide) ?_   -- t31 := extract t28 0
  refine WL.val (Y.extract rfl rfl) (by decide) ?_   -- t32 := extract t28 1
  refine as_apiCommit rfl (by simp) (by decide) fun g5 w6 hx6 hg5 hB5 => ?_   -- alloc 25; store 25 t5 t31
  have hlt5 := hB5.lt; have hz6 := hx6.size
  have hM5 := hB5.mem; have hz6 := hx6.size; have hE := hE.thenExt hx6; have hc0 := hc0.ext hx6; have hK := hK.ext hx6; have hB1 := hB1.ext hx6
  refine WL.val (Y.assign rfl) (by decide) ?_   -- t6 := assign t32
  refine WL.nil ?_
  refine hK7 _ _ ?_; try clear hK7 K7
  refine CW.seq fun K8 hK8 => ?_
  refine CW.region ?_   -- region 5
  refine WL.val (Y.load Tryd.underlying25 rfl hB1.mem (sz_apiCommit _ _ _ _) rfl) (by decide) ?_   -- t34 := load 25 t1
  refine WL.call Tryd.func8 rfl rfl rfl (id_any _ c _ hc0 hK) (by simp) ?_; rintro v w7 ⟨rfl, hx7⟩; have hz7 := hx7.size; have hE := hE.thenExt hx7; have hc0 := hc0.ext hx7; have hK := hK.ext hx7; have hB1 := hB1.ext hx7; have hB5 := hB5.ext hx7   -- t35 := call F8(t34) : 25
  refine WL.val (Y.move rfl) (by decide) ?_   -- t33 := move t35
  refine WL.val (Y.extract rfl rfl) (by decide) ?_   -- t36 := extract t33 0
  refine WL.val (Y.extract rfl rfl) (by decide) ?_   -- t37 := extract t33 1
  refine as_apiDigest rfl (by simp) (by decide) fun g7 w8 hx8 hg7 hB7 => ?_   -- alloc 34; store 34 t7 t36
  have hlt7 := hB7.lt; have hz8 := hx8.size
  have hM7 := hB7.mem; have hz8 := hx8.size; have hE := hE.thenExt hx8; have hc0 := hc0.ext hx8; have hK := hK.ext hx8; have hB1 := hB1.ext hx8; have hB5 := hB5.ext hx8
  refine WL.val (Y.assign rfl) (by decide) ?_   -- t8 := assign t37
  refine WL.nil ?_
  refine hK8 _ _ ?_; try clear hK8 K8
  refine CW.seq fun K9 hK9 => ?_
  refine CW.quiet (fun wq => Ext w8 wq) (by kernel_rfl) (by kernel_rfl) Chg.drew ?_
  refine QL.val (fun wq hq => Y.move rfl) (by decide) ?_   -- t38 := move t6
  refine QL.val (fun wq hq => Y.eql rfl rfl) (by decide) ?_   -- t39 := binOp eql 28 t38 c(0:i64) 28
  refine QL.val (fun wq hq => Y.move rfl) (by decide) ?_   -- t40 := move t39
  refine QL.know (d := 40) (u := .bool true) rfl (by rw [decide_eq_true hd.1]) ?_
  refine QL.gval rfl rfl (fun wq hq => Y.load Tryd.underlying25 rfl (hB1.ext hq).mem (sz_apiCommit _ _ _ _) rfl) (by decide) ?_   -- t41 := load 25 t1 [if 2=true]
  refine QL.gval rfl rfl (fun wq hq => Y.load Tryd.underlying25 rfl (hB5.ext hq).mem (sz_apiCommit _ _ _ _) rfl) (by decide) ?_   -- t42 := load 25 t5 [if 2=true]
  refine QL.gcall rfl rfl Tryd.func14 rfl rfl rfl (fun wq hq => ret_ext (same_any _ _ c (decC (comB c)) _ (hc0.ext hq) (hD.ext (((hx6.thenExt hx7).thenExt hx8).thenExt hq))) hq) (by decide) ?_   -- t43 := call F14(t41, t42) : 25,25 [if 2=true]
  refine QL.val (fun wq hq => Y.pick rfl rfl) (by decide) ?_   -- t44 := pick t40 t43 c(false)
  refine QL.val (fun wq hq => Y.move rfl) (by decide) ?_   -- t45 := move t44
  refine QL.know (d := 45) (u := .bool true) rfl (by rw [hd.2, sameB_self]) ?_
  refine QL.gval rfl rfl (fun wq hq => Y.move rfl) (by decide) ?_   -- t46 := move t8 [if 7=true]
  refine QL.gval rfl rfl (fun wq hq => Y.eql rfl rfl) (by decide) ?_   -- t47 := binOp eql 28 t46 c(0:i64) 28 [if 7=true]
  refine QL.val (fun wq hq => Y.pick rfl rfl) (by decide) ?_   -- t48 := pick t45 t47 c(false)
  refine QL.val (fun wq hq => Y.move rfl) (by decide) ?_   -- t49 := move t48
  refine QL.know (d := 49) (u := .bool true) rfl (by rw [decide_eq_true hm0]) ?_
  refine QL.gval rfl rfl (fun wq hq => Y.load Tryd.underlying34 rfl (hB7.ext hq).mem (sz_apiDigest _) rfl) (by decide) ?_   -- t50 := load 34 t7 [if 11=true]
  refine QL.gval rfl rfl (fun wq hq => Y.move rfl) (by decide) ?_   -- t51 := move t3 [if 11=true]
  refine QL.gcall rfl rfl Tryd.func15 rfl rfl rfl (fun wq hq => ret_ext (sum_any _ (comB c) _ (hO2.ext (((hx6.thenExt hx7).thenExt hx8).thenExt hq)) (fun k hk => by have := hlt2 k hk; have := hq.size; omega) (hK.ext hq) (by have := comB_len hm0; omega)) hq) (by decide) ?_   -- t52 := call F15(t51) : 27 [if 11=true]
  refine QL.gval rfl rfl (fun wq hq => Y.eql_apiDigest rfl rfl) (by decide) ?_   -- t53 := binOp eql 34 t50 t52 34 [if 11=true]
  refine QL.val (fun wq hq => Y.pick rfl rfl) (by decide) ?_   -- t54 := pick t49 t53 c(false)
  refine QL.val (fun wq hq => Y.move rfl) (by decide) ?_   -- t55 := move t54
  refine QL.know (d := 55) (u := .bool true) rfl (by rw [idD, if_pos hm0, decide_eq_true rfl]) ?_
  refine QL.gcall rfl rfl Tryd.func11 rfl rfl rfl (fun wq hq => ret_ext (alive_any _) hq) (by decide) ?_   -- t56 := call F11() :  [if 17=true]
  refine QL.val (fun wq hq => Y.pick rfl rfl) (by decide) ?_   -- t57 := pick t55 t56 c(false)
  refine QL.val (fun wq hq => Y.assign rfl) (by decide) ?_   -- t2 := assign t57
  refine QL.nil fun w9 hx9 => ?_
  have hz9 := hx9.size
  have hE := hE.thenExt hx9
  have hc0 := hc0.ext hx9
  have hK := hK.ext hx9
  have hB1 := hB1.ext hx9
  have hB5 := hB5.ext hx9
  have hB7 := hB7.ext hx9
  refine hK9 _ _ ?_; try clear hK9 K9
  refine CW.ret ⟨_, rfl, ?_⟩
  exact ⟨rfl, hE⟩
end Go.Proofs.YtfbagecopapfhaaDoor
