/- What must come: the least commit's bytes, and back: small, alive. No condition. -/
import Derived.Test.YtfbagecopapfhaaDoorKn
set_option linter.unusedSimpArgs false
set_option linter.unusedVariables false
namespace Go.Proofs.YtfbagecopapfhaaDoor
open Go.RowKit Go.Fw Go.Pl
def smallO : OpD := ⟨1, false, RefD.zero, 97⟩
def smallC : ComD := ⟨[], bs [113], bs [], [smallO]⟩
def nilC : ComD := ⟨[], bs [], bs [], []⟩
def smallB : List UInt8 := [0, 1, 113, 0, 1, 0, 97]
theorem may_small : mayI smallC = 0 := by
  have h : nameB smallC.author.toList = true := by rw [show smallC.author = bs [113] from rfl, bs_toList]; decide
  exact mayOk_i ⟨by decide, rfl, h, by decide, by decide, fun j hj => by
    have : j = 0 := by have : smallC.ops.length = 1 := rfl; omega
    subst this; decide⟩
theorem com_small : comB smallC = smallB := by
  have h0 : vi 0 = [0] := vi_lt (by decide)
  have h1 : vi 1 = [1] := vi_lt (by decide)
  have hf : opB smallO = [0, 97] := by
    have : opB smallO = numB 0 ++ [97] := rfl
    rw [this, show (0 : Int) = ((0 : Nat) : Int) from rfl, numB_nat, h0]; rfl
  simp only [comB, textB, smallC, bs_toList, List.length_nil, List.length_cons, List.map_nil, List.map_cons, hf, h0, h1, List.flatten_nil, List.flatten_cons]
  rfl
theorem dec_small : decI smallB = .ok smallC := by
  have h : gcom smallB = .ok (smallC, 7) := rfl
  rw [decI, h]
  simp [may_small, smallB]
theorem decC_small : decC smallB = smallC := by rw [decC, if_neg (by decide), dec_small]
theorem decE_small : decE smallB = 0 := by rw [decE, if_neg (by decide), dec_small]
theorem same_small : sameB smallC smallC = true := by simp [sameB]
theorem same_nil : sameB smallC nilC = false := by simp [sameB, smallC, nilC, bs_toList]
theorem name_aB : nameB (bs [97, 46, 66, 45, 49]).toList = true := by rw [bs_toList]; decide
theorem com_nil (w : World) : Com w (.agg comZ.toArray) nilC := ⟨_, _, rfl, Sl.nil, Sl.nil, by decide, by decide⟩
theorem build_op1 (w : World) : (Instr.build 51 [(0, Value.int .i64 1), (3, Value.int .u8 97)].toArray).run Tryd.prog w = .ok (opV smallO) w := by kernel_rfl
theorem build_com1 (A : Option Addr) (m c : Nat) (w : World) : (Instr.build 25 [(1, Value.string (bs [113])), (3, Value.slice A m c)].toArray).run Tryd.prog w = .ok (.agg (comC (.slice none 0 0) (bs [113]) (bs []) (.slice A m c)).toArray) w := run_build w _ _ _ (by kernel_rfl)
theorem Sl.one {w : World} {g : Nat} {t : TypeId} {x : OpD} (h : Blk w g t (opC x)) : Sl w opC 37 (.slice (some ⟨g, 0, none⟩) 1 1) [x] := ⟨some ⟨g, 0, none⟩, 1, 1, rfl, rfl, Nat.le_refl _, by unfold maxLen; decide, fun i y hi => by
  cases i with
  | zero =>
    simp at hi; subst hi
    exact ⟨_, rfl, by have := h.mem; simpa [Addr.add] using this⟩
  | succ i => simp at hi⟩

theorem small_any (w : World) : Calls Tryd.prog 26 #[] w (Ret fun v w' => Com w' v smallC ∧ Ext w w') := by
  obtain ⟨ic, hic, hzc⟩ := info_com
  refine calls_of_CWc 4 0 4 [] Tryd.func26 rfl rfl rfl Tryd.underlying25 rfl (by kernel_rfl) (by simp) args0 ?_
  refine CW.seq fun K1 hK1 => ?_
  refine CW.region ?_   -- region 0
  refine WL.alloc (hic) (hzc) rfl (by decide) fun g0 w1 hx1 hg0 hB0 => ?_   -- t0 := alloc 25
  have hM0 := hB0.mem
  refine WL.nil ?_
  refine hK1 _ _ ?_; try clear hK1 K1
  refine CW.seq fun K2 hK2 => ?_
  refine CW.region ?_   -- region 1
  refine WL.val (Y.build rfl (build_op1 _)) (by decide) ?_   -- t1 := build 51 [(0,c(1:i64)), (3,c(97:u8))]
  refine WL.st (St.buildSlice rfl (bs1_op _)) (by decide) fun v2 w2 hR2 => ?_   -- t2 := buildSlice 23 1 [(0,t1)]
  obtain ⟨g2, rfl, hg2, hB2, hx2⟩ := hR2
  refine WL.val (Y.build rfl (build_com1 _ _ _ _)) (by decide) ?_   -- t3 := build 25 [(1,c(STR)), (3,t2)]
  refine WL.store (g := g0) (pre := []) (old := comZ) (post := []) (new := comC (.slice none 0 0) (bs [113]) (bs []) (.slice (some ⟨g2, 0, none⟩) 1 1)) rfl rfl rfl rfl (sz_apiCommit _ _ _ _) (by simpa using hB0.ext hx2) (by first | rfl | (simp [digC_length, opC_length]; done) | (simp only [digC_length, opC_length]; omega)) (one_com) (fun w3 hc3 hB3_ => ?_)   -- _ := store 25 t0 t3
  have hs1 := hx1.size
  have hl := hB0.lt
  have hB3 : Blk w3 g0 25 (comC (.slice none 0 0) (bs [113]) (bs []) (.slice (some ⟨g2, 0, none⟩) 1 1)) := by simpa using hB3_
  have hB4 := hB2.chg hc3 (fun h => by omega)
  refine WL.nil ?_
  refine hK2 _ _ ?_; try clear hK2 K2
  refine CW.ret ?_
  exact ⟨_, _, rfl, hB3.mem, rfl, ⟨_, _, rfl, Sl.nil, Sl.one hB4, by decide, by decide⟩, (((Ext.chg (hx1.thenExt hx2)).trans hc3 (fun _ _ h => h)).toExt (fun i hi h => by omega))⟩
theorem alive_any (w : World) : Calls Tryd.prog 11 #[] w (Ret fun v w' => v = .bool true ∧ Ext w w') := by
  refine calls_of_CW 41 [0] [] Tryd.func11 rfl rfl rfl (by simp) args0 ?_
  refine CW.seq fun K1 hK1 => ?_
  refine CW.region ?_   -- region 0
  refine WL.val (Y.assign rfl) (by decide) ?_   -- t0 := assign c(false)
  refine WL.nil ?_
  refine hK1 _ _ ?_; try clear hK1 K1
  refine CW.seq fun K2 hK2 => ?_
  refine CW.region ?_   -- region 1
  refine WL.call Tryd.func26 rfl rfl rfl (small_any _) (by simp) ?_; rintro v6 w1 hR1   -- t6 := call F26() : 
  obtain ⟨hC6, hx1⟩ := hR1
  refine WL.call Tryd.func6 rfl rfl rfl (encode_any _ _ _ hC6) (by simp) ?_; rintro v7 w2 hR2   -- t7 := call F6(t6) : 25
  obtain ⟨u, rfl, hA2⟩ := hR2
  rw [if_pos may_small, com_small] at hA2
  have hx2 := hA2.nilExt
  have hO7 := hA2.nilOwn
  obtain ⟨A7, m7, c7, rfl⟩ := hO7.lens
  have hm7 : smallB.length = m7 := by have := (hO7.mem _ _ _ rfl).2.2.1; simpa [bytesC_length] using this
  refine WL.val (Y.move rfl) (by decide) ?_   -- t5 := move t7
  refine WL.val (Y.extract rfl rfl) (by decide) ?_   -- t8 := extract t5 0
  refine WL.val (Y.extract rfl rfl) (by decide) ?_   -- t9 := extract t5 1
  refine WL.val (Y.assign rfl) (by decide) ?_   -- t1 := assign t8
  refine WL.val (Y.assign rfl) (by decide) ?_   -- t2 := assign t9
  refine WL.nil ?_
  refine hK2 _ _ ?_; try clear hK2 K2
  refine CW.seq fun K3 hK3 => ?_
  refine CW.region ?_   -- region 2
  refine WL.bytesConst rfl (fun w => run_bsN Tryd.underlying27 ai_u8 smallB (by decide) (by decide) w) Tryd.underlying27 Tryd.underlying5 rfl (by unfold maxLen; decide) (by decide) (by decide) fun g12 w3 hx3 hg12 hO12 => ?_   -- buildSlice 27 7 [(0,c(0:u8)), (1,c(1:u8)), (2,c(113:u8)), (3,c(0:u8)), (4,c(1:u8)), (5,c(0:u8)), (6,c(97:u8))]; convert 27 27 t11
  refine WL.call Tryd.func13 rfl rfl rfl ((decode_any _ smallB _ (Own.by hO12))) (by simp) ?_; rintro v13 w4 hR4   -- t13 := call F13(t12) : 27
  obtain ⟨pv, ov, rfl, hx4, hP4, hOp4, _, _⟩ := hR4
  rw [decC_small] at hP4 hOp4 ⊢
  have hP0 := hP4
  have hOp0 := hOp4
  obtain ⟨Ap, mp, cp, rfl, _⟩ := hP4
  obtain ⟨Ao, mo, co, rfl, _⟩ := hOp4
  skip; have hO12 := hO12.ext hx4
  refine WL.val (Y.move rfl) (by decide) ?_   -- t10 := move t13
  refine WL.val (Y.extract rfl rfl) (by decide) ?_   -- t14 := extract t10 0
  refine WL.val (Y.extract rfl rfl) (by decide) ?_   -- t15 := extract t10 1
  refine as_apiCommit rfl (by simp) (by decide) fun g3 w5 hx5 hg3 hB3 => ?_   -- alloc 25; store 25 t3 t14
  have hM3 := hB3.mem; have hO12 := hO12.ext hx5
  refine WL.val (Y.assign rfl) (by decide) ?_   -- t4 := assign t15
  refine WL.nil ?_
  refine hK3 _ _ ?_; try clear hK3 K3
  refine CW.seq fun K4 hK4 => ?_
  refine CW.held (fun wq => Ext w5 wq) (by kernel_rfl) 26 rfl fun w6 hS => ?_
  refine RH.take 0 (fun _ _ _ _ h => h) (by kernel_rfl) hS rfl (by kernel_rfl) (by kernel_rfl) (fun wq hq => Y.move rfl) (by decide) ?_   -- t16 := move t2
  refine RH.take 1 (fun _ _ _ _ h => h) (by kernel_rfl) hS rfl (by kernel_rfl) (by kernel_rfl) (fun wq hq => Y.eql rfl rfl) (by decide) ?_   -- t17 := binOp eql 28 t16 c(0:i64) 28
  refine RH.take 2 (fun _ _ _ _ h => h) (by kernel_rfl) hS rfl (by kernel_rfl) (by kernel_rfl) (fun wq hq => Y.move rfl) (by decide) ?_   -- t18 := move t17
  refine RH.know (d := 18) (u := .bool true) rfl (by rw [decide_eq_true may_small]) ?_
  refine RH.gtake 3 (fun _ _ _ _ h => h) (by kernel_rfl) hS rfl (by kernel_rfl) (by kernel_rfl) rfl rfl (fun wq hq => Y.move rfl) (by decide) ?_   -- t19 := move t1
  refine RH.gtake 4 (fun _ _ _ _ h => h) (by kernel_rfl) hS rfl (by kernel_rfl) (by kernel_rfl) rfl rfl (fun wq hq => Y.bytes_string Tryd.underlying27 Tryd.underlying5 Tryd.underlying9 rfl hm7 ((hO7.ext (((hx3.thenExt hx4).thenExt hx5).thenExt hq)).mem _ _ _ rfl).1 (hO7.mem _ _ _ rfl).2.1) (by decide) ?_   -- t20 := convert 27 9 t19
  refine RH.gtake 5 (fun _ _ _ _ h => h) (by kernel_rfl) hS rfl (by kernel_rfl) (by kernel_rfl) rfl rfl (fun wq hq => Y.eql_string rfl rfl) (by decide) ?_   -- t21 := binOp eql 9 t20 c(STR) 9
  refine RH.take 6 (fun _ _ _ _ h => h) (by kernel_rfl) hS rfl (by kernel_rfl) (by kernel_rfl) (fun wq hq => Y.pick rfl rfl) (by decide) ?_   -- t22 := pick t18 t21 c(false)
  refine RH.take 7 (fun _ _ _ _ h => h) (by kernel_rfl) hS rfl (by kernel_rfl) (by kernel_rfl) (fun wq hq => Y.move rfl) (by decide) ?_   -- t23 := move t22
  refine RH.know (d := 23) (u := .bool true) rfl (by rw [bs_toList, show ByteArray.toList { data := #[0, 1, 113, 0, 1, 0, 97] } = smallB from bs_toList smallB]; rfl) ?_
  refine RH.gtake 8 (fun _ _ _ _ h => h) (by kernel_rfl) hS rfl (by kernel_rfl) (by kernel_rfl) rfl rfl (fun wq hq => Y.move rfl) (by decide) ?_   -- t24 := move t4
  refine RH.gtake 9 (fun _ _ _ _ h => h) (by kernel_rfl) hS rfl (by kernel_rfl) (by kernel_rfl) rfl rfl (fun wq hq => Y.eql rfl rfl) (by decide) ?_   -- t25 := binOp eql 28 t24 c(0:i64) 28
  refine RH.take 10 (fun _ _ _ _ h => h) (by kernel_rfl) hS rfl (by kernel_rfl) (by kernel_rfl) (fun wq hq => Y.pick rfl rfl) (by decide) ?_   -- t26 := pick t23 t25 c(false)
  refine RH.take 11 (fun _ _ _ _ h => h) (by kernel_rfl) hS rfl (by kernel_rfl) (by kernel_rfl) (fun wq hq => Y.move rfl) (by decide) ?_   -- t27 := move t26
  refine RH.know (d := 27) (u := .bool true) rfl (by rw [decide_eq_true decE_small]) ?_
  refine RH.gtake 12 (fun _ _ _ _ h => h) (by kernel_rfl) hS rfl (by kernel_rfl) (by kernel_rfl) rfl rfl (fun wq hq => Y.load Tryd.underlying25 rfl (hM3.ext hq) (sz_apiCommit _ _ _ _) rfl) (by decide) ?_   -- t28 := load 25 t3
  refine RH.one 13 (by kernel_rfl) ?_
  refine RS.call rfl (fun _ _ h => by cases h; exact ⟨_, rfl, rfl⟩) Tryd.func26 rfl rfl rfl (small_any _) (by decide) fun v29 w7 hR7 => ?_   -- call F26() : 
  obtain ⟨hC29, hx7⟩ := hR7
  have hS := hS.thenExt hx7
  refine ⟨hS, ?_⟩
  refine RH.one 14 (by kernel_rfl) ?_
  refine RS.call rfl (fun _ _ h => by cases h; exact ⟨_, rfl, rfl⟩) Tryd.func14 rfl rfl rfl (same_any _ _ _ _ _ ⟨_, _, rfl, hP0.ext (hx5.thenExt hS), hOp0.ext (hx5.thenExt hS), by decide, by decide⟩ hC29) (by decide) fun v30 w8 hR8 => ?_   -- call F14(t28, t29) : 25,25
  obtain ⟨rfl, hx8⟩ := hR8
  have hS := hS.thenExt hx8
  refine ⟨hS, ?_⟩
  refine RH.take 15 (fun _ _ _ _ h => h) (by kernel_rfl) hS rfl (by kernel_rfl) (by kernel_rfl) (fun wq hq => Y.pick rfl rfl) (by decide) ?_   -- t31 := pick t27 t30 c(false)
  refine RH.take 16 (fun _ _ _ _ h => h) (by kernel_rfl) hS rfl (by kernel_rfl) (by kernel_rfl) (fun wq hq => Y.move rfl) (by decide) ?_   -- t32 := move t31
  refine RH.know (d := 32) (u := .bool true) rfl (by rw [same_small]) ?_
  refine RH.gtake 17 (fun _ _ _ _ h => h) (by kernel_rfl) hS rfl (by kernel_rfl) (by kernel_rfl) rfl rfl (fun wq hq => Y.load Tryd.underlying25 rfl (hM3.ext hq) (sz_apiCommit _ _ _ _) rfl) (by decide) ?_   -- t33 := load 25 t3
  refine RH.gtake 18 (fun _ _ _ _ h => h) (by kernel_rfl) hS rfl (by kernel_rfl) (by kernel_rfl) rfl rfl (fun wq hq => Y.build0 (build_apiCommit _)) (by decide) ?_   -- t34 := build 25 []
  refine RH.one 19 (by kernel_rfl) ?_
  refine RS.call rfl (fun _ _ h => by cases h; exact ⟨_, rfl, rfl⟩) Tryd.func14 rfl rfl rfl (same_any _ _ _ _ _ ⟨_, _, rfl, hP0.ext (hx5.thenExt hS), hOp0.ext (hx5.thenExt hS), by decide, by decide⟩ (com_nil _)) (by decide) fun v35 w9 hR9 => ?_   -- call F14(t33, t34) : 25,25
  obtain ⟨rfl, hx9⟩ := hR9
  have hS := hS.thenExt hx9
  refine ⟨hS, ?_⟩
  refine RH.gtake 20 (fun _ _ _ _ h => h) (by kernel_rfl) hS rfl (by kernel_rfl) (by kernel_rfl) rfl rfl (fun wq hq => Y.not rfl) (by decide) ?_   -- t36 := unOp not 4 t35
  refine RH.take 21 (fun _ _ _ _ h => h) (by kernel_rfl) hS rfl (by kernel_rfl) (by kernel_rfl) (fun wq hq => Y.pick rfl rfl) (by decide) ?_   -- t37 := pick t32 t36 c(false)
  refine RH.take 22 (fun _ _ _ _ h => h) (by kernel_rfl) hS rfl (by kernel_rfl) (by kernel_rfl) (fun wq hq => Y.move rfl) (by decide) ?_   -- t38 := move t37
  refine RH.know (d := 38) (u := .bool true) rfl (by rw [same_nil]; rfl) ?_
  refine RH.one 23 (by kernel_rfl) ?_
  refine RS.call rfl (fun _ _ h => by cases h; exact ⟨_, rfl, rfl⟩) Tryd.func27 rfl rfl rfl (name_any (bs [97, 46, 66, 45, 49]) _ (by unfold maxLen; decide)) (by decide) fun v39 w10 hR10 => ?_   -- call F27(c(STR)) : 9
  obtain ⟨rfl, hx10⟩ := hR10
  have hS := hS.thenExt hx10
  refine ⟨hS, ?_⟩
  refine RH.take 24 (fun _ _ _ _ h => h) (by kernel_rfl) hS rfl (by kernel_rfl) (by kernel_rfl) (fun wq hq => Y.pick rfl rfl) (by decide) ?_   -- t40 := pick t38 t39 c(false)
  refine RH.take 25 (fun _ _ _ _ h => h) (by kernel_rfl) hS rfl (by kernel_rfl) (by kernel_rfl) (fun wq hq => Y.assign rfl) (by decide) ?_   -- t0 := assign t40
  refine RH.done (by kernel_rfl) ?_
  have hx11 := hS; have hO12 := hO12.ext hx11; have hM3 := hM3.ext hx11
  refine hK4 _ _ ?_; try clear hK4 K4
  refine CW.ret ⟨_, rfl, ?_⟩
  exact ⟨by rw [name_aB], (((((hx1.thenExt hx2).thenExt hx3).thenExt hx4).thenExt hx5).thenExt hx11)⟩
end Go.Proofs.YtfbagecopapfhaaDoor
