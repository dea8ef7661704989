/- The reference's Encode and ID, walked. No condition. -/
import Derived.Test.YtfbagecopapfhaaDoorTa
import Derived.Test.YtfbagecopapfhaaDoorSw
set_option linter.unusedSimpArgs false
set_option linter.unusedVariables false
namespace Go.Proofs.YtfbagecopapfhaaDoor
open Go.RowKit Go.Fw Go.Pl
def CC (Ap : Option Addr) (mp cp : Nat) (Ao : Option Addr) (mo co : Nat) (cm : ComD) : List Value := comC (.slice Ap mp cp) cm.author cm.note (.slice Ao mo co)

theorem rEncode_any (cv : Value) (cm : ComD) (w : World) (hc : Com w cv cm) : Calls Tryd.prog 7 #[cv] w (Ret fun v w' => v = .tuple #[.string (bs (if mayI cm = 0 then comB cm else [])), .int .i64 (mayI cm)] ∧ Ext w w') := by
  have hc0 := hc
  obtain ⟨_, _, rfl, ⟨Ap, mp, cp, rfl, hpl, hpc, hpm, hpx⟩, ⟨Ao, mo, co, rfl, hol, hoc, hom, hox⟩, hau, hno⟩ := hc0
  unfold maxLen at hpm hom hau hno
  refine calls_of_CW 62 [2, 3] [(0, .agg (comC (.slice Ap mp cp) cm.author cm.note (.slice Ao mo co)).toArray)] Tryd.func7 rfl rfl rfl (by simp) args1 ?_
  have hE : Ext w w := Chg.refl
  refine CW.seq fun K1 hK1 => ?_
  refine CW.region ?_   -- region 0
  refine WL.box rfl rfl (by decide) fun g1 w1 hx1 hg1 hB1 => ?_   -- t1 := box 25 t0
  have hlt1 := hB1.lt; have hz1 := hx1.size
  have hM1 := hB1.mem; have hz1 := hx1.size; have hE := hE.thenExt hx1
  refine WL.val (Y.assign rfl) (by decide) ?_   -- t2 := assign c(STR)
  refine WL.val (Y.assign rfl) (by decide) ?_   -- t3 := assign c(0:i64)
  refine WL.nil ?_
  refine hK1 _ _ ?_; try clear hK1 K1
  refine CW.seq fun K2 hK2 => ?_
  refine CW.region ?_   -- region 1
  refine WL.val (Y.load Tryd.underlying25 rfl hB1.mem (sz_apiCommit _ _ _ _) rfl) (by decide) ?_   -- t8 := load 25 t1
  refine WL.call Tryd.func19 rfl rfl rfl ((rMay_any _ cm _ (hc.ext hx1))) (by simp) ?_; rintro v w2 ⟨rfl, hx2⟩; have hz2 := hx2.size; have hE := hE.thenExt hx2; have hB1 := hB1.ext hx2   -- t9 := call F19(t8) : 25
  refine WL.val (Y.assign rfl) (by decide) ?_   -- t4 := assign t9
  refine WL.nil ?_
  refine hK2 _ _ ?_; try clear hK2 K2
  refine CW.seq fun K3 hK3 => ?_
  refine CW.seq fun K4 hK4 => ?_
  refine CW.region ?_   -- region 2
  refine WL.val (Y.move rfl) (by decide) ?_   -- t10 := move t4
  refine WL.val (Y.neq rfl rfl) (by decide) ?_   -- t11 := binOp neq 3 t10 c(0:i64) 3
  refine WL.nil ?_
  refine hK4 _ _ ?_; try clear hK4 K4
  first | refine CW.condD rfl (fun ht5 => ?_) (fun ht5 => ?_) | refine CW.condND rfl (fun ht5 => ?_) (fun ht5 => ?_) | refine CW.condN rfl (fun ht5 => ?_) (fun ht5 => ?_) | refine CW.cond rfl (fun ht5 => ?_) (fun ht5 => ?_)
  · -- then
    refine CW.seq fun K6 hK6 => ?_
    refine CW.region ?_   -- region 3
    refine WL.val (Y.move rfl) (by decide) ?_   -- t12 := move t4
    refine WL.val (Y.assign rfl) (by decide) ?_   -- t2 := assign c(STR)
    refine WL.val (Y.assign rfl) (by decide) ?_   -- t3 := assign t12
    refine WL.nil ?_
    refine hK6 _ _ ?_; try clear hK6 K6
    refine CW.ret ⟨_, rfl, ?_⟩
    exact ⟨by rw [if_neg (by assumption)]; rfl, hE⟩
  -- else
  refine CW.skip ?_
  refine hK3 _ _ ?_; try clear hK3 K3
  refine CW.seq fun K7 hK7 => ?_
  have hmo := mayI_ok (Decidable.not_not.1 (by assumption))
  have hv9 := vi_len9 (n := mp) (by omega)
  have hpp := hmo.parents
  have hoo := hmo.ops
  refine CW.region ?_   -- region 4
  refine WL.val (Y.fieldAddr fo_apiCommit0 rfl) (by decide) ?_   -- t13 := fieldAddr 25 t1 0
  refine WL.val (Y.load1 Tryd.underlying22 rfl hB1.mem.com0 rfl) (by decide) ?_   -- t14 := load 22 t13
  refine WL.val (Y.len_slice Tryd.underlying22 rfl) (by decide) ?_   -- t15 := call len(t14) : 22
  refine WL.call Tryd.func20 rfl rfl rfl ((rNum_any mp _ (by omega))) (by simp) ?_; rintro v w3 ⟨rfl, hx3⟩; have hz3 := hx3.size; have hE := hE.thenExt hx3; have hB1 := hB1.ext hx3   -- t16 := call F20(t15) : 3
  refine WL.val (Y.assign rfl) (by decide) ?_   -- t5 := assign t16
  refine WL.nil ?_
  refine hK7 _ _ ?_; try clear hK7 K7
  refine CW.seq fun K8 hK8 => ?_
  refine CW.seq fun K9 hK9 => ?_
  refine CW.region ?_   -- region 5
  refine WL.val (Y.assign rfl) (by decide) ?_   -- t6 := assign c(0:i64)
  refine WL.nil ?_
  refine hK9 _ _ ?_; try clear hK9 K9
  refine CW.block ?_   -- block 0
  refine CW.loop (X := Nat) (fun x => [(1, .pointer (some ⟨g1, 0, none⟩)), (5, .string (bs (vi mp ++ ((cm.parents.take x).map (·.1)).flatten))), (6, .int .i64 (x : Int))]) (fun x w0 => x ≤ mp ∧ Ext w w0 ∧ Blk w0 g1 25 (comC (.slice Ap mp cp) cm.author cm.note (.slice Ao mo co))) (fun x => mp - x) 0 (Fr.le.cons rfl (Fr.le.cons (by rw [List.take_zero, List.map_nil, List.flatten_nil, List.append_nil]; rfl) (Fr.le.cons rfl Fr.le.nil))) ⟨Nat.zero_le _, hE, hB1⟩ ?_
  intro x w4 hl4
  clear hE hB1 hM1
  obtain ⟨hx, hE, hB1⟩ := hl4
  have hM1 := hB1.mem
  have hfl : ((cm.parents.take x).map (·.1)).flatten.length ≤ (cm.parents.take x).length * 32 := flat_len (fun y _ => Nat.le_of_eq y.2)
  have htl : (cm.parents.take x).length ≤ 8 := by rw [List.length_take]; omega
  refine CW.seq fun K10 hK10 => ?_
  refine CW.seq fun K11 hK11 => ?_
  refine CW.region ?_   -- region 6
  refine WL.val (Y.move rfl) (by decide) ?_   -- t17 := move t6
  refine WL.val (Y.fieldAddr fo_apiCommit0 rfl) (by decide) ?_   -- t18 := fieldAddr 25 t1 0
  refine WL.val (Y.load1 Tryd.underlying22 rfl hB1.mem.com0 rfl) (by decide) ?_   -- t19 := load 22 t18
  refine WL.val (Y.len_slice Tryd.underlying22 rfl) (by decide) ?_   -- t20 := call len(t19) : 22
  refine WL.val (Y.lss rfl rfl) (by decide) ?_   -- t21 := binOp lss 3 t17 t20 3
  refine WL.nil ?_
  refine hK11 _ _ ?_; try clear hK11 K11
  first | refine CW.condD rfl (fun ht12 => ?_) (fun ht12 => ?_) | refine CW.condND rfl (fun ht12 => ?_) (fun ht12 => ?_) | refine CW.condN rfl (fun ht12 => ?_) (fun ht12 => ?_) | refine CW.cond rfl (fun ht12 => ?_) (fun ht12 => ?_)
  · -- then
    refine CW.skip ?_
    refine hK10 _ _ ?_; try clear hK10 K10
    refine CW.seq fun K13 hK13 => ?_
    refine CW.block ?_   -- block 1
    refine CW.region ?_   -- region 8
    refine WL.val (Y.move rfl) (by decide) ?_   -- t24 := move t5
    refine WL.val (Y.fieldAddr fo_apiCommit0 rfl) (by decide) ?_   -- t25 := fieldAddr 25 t1 0
    refine WL.val (Y.load1 Tryd.underlying22 rfl hB1.mem.com0 rfl) (by decide) ?_   -- t26 := load 22 t25
    refine WL.val (Y.move rfl) (by decide) ?_   -- t27 := move t6
    obtain ⟨d, hd⟩ : ∃ d, cm.parents[x]? = some d := ⟨_, List.getElem?_eq_getElem (by omega)⟩
    obtain ⟨ad, rfl, hmd⟩ := hpx _ d hd
    have hd2 := d.2
    refine WL.val (Y.indexAddrN Tryd.underlying22 rfl rfl sz0_apiDigest (by omega)) (by decide) ?_   -- t28 := indexAddr 22 t26 t27
    refine WL.val (Y.load Tryd.underlying34 rfl (hmd.ext hE) (sz_apiDigest _) rfl) (by decide) ?_   -- t29 := load 34 t28
    refine WL.call Tryd.func21 rfl rfl rfl (rBytes_any _ _) (by simp) ?_; rintro v w5 ⟨rfl, hx5⟩; have hz5 := hx5.size; have hE := hE.thenExt hx5; have hB1 := hB1.ext hx5   -- t30 := call F21(t29) : 34
    refine WL.val (Y.addS rfl rfl (by simp only [ByteArray.size_append, bs_size, List.length_append]; omega)) (by decide) ?_   -- t31 := binOp add 9 t24 t30 9
    refine WL.val (Y.assign rfl) (by decide) ?_   -- t5 := assign t31
    refine WL.nil ?_
    refine hK13 _ _ ?_; try clear hK13 K13
    refine CW.region ?_   -- region 7
    refine WL.val (Y.move rfl) (by decide) ?_   -- t22 := move t6
    refine WL.val (Y.add rfl rfl ⟨by omega, by omega⟩) (by decide) ?_   -- t23 := binOp add 3 t22 c(1:i64) 3
    refine WL.val (Y.assign rfl) (by decide) ?_   -- t6 := assign t23
    refine WL.nil ?_
    refine ⟨x + 1, by omega, Fr.le.cons rfl (Fr.le.cons (by rw [bs_append, flat_take_succ hd, ← List.append_assoc]; rfl) (Fr.le.cons rfl Fr.le.nil)), by omega, hE, hB1⟩
  -- else
  refine CW.exit ?_   -- exit 0
  refine hK8 _ _ ?_; try clear hK8 K8
  refine CW.seq fun K14 hK14 => ?_
  have hna := hmo.name
  have hnn := hmo.note
  have hta : (textB cm.author.toList).length ≤ 33 := by have := vi_len9 (n := cm.author.size) (by omega); rw [textB, List.length_append, toList_length]; omega
  have htn : (textB cm.note.toList).length ≤ 209 := by have := vi_len9 (n := cm.note.size) (by omega); rw [textB, List.length_append, toList_length]; omega
  have hvo := vi_len9 (n := mo) (by omega)
  obtain ⟨pre, hpre⟩ : ∃ p, p = vi mp ++ ((cm.parents.take x).map (·.1)).flatten ++ textB cm.author.toList ++ textB cm.note.toList ++ vi mo := ⟨_, rfl⟩
  have hpre2 := hpre
  rw [List.take_of_length_le (by omega)] at hpre2
  have hpl6 : pre.length ≤ 600 := by rw [hpre]; simp only [List.length_append]; omega
  refine CW.quiet (fun wq => Ext w4 wq) (by kernel_rfl) (by kernel_rfl) Chg.drew ?_
  refine QL.val (fun wq hq => Y.move rfl) (by decide) ?_   -- t32 := move t5
  refine QL.val (fun wq hq => Y.fieldAddr fo_apiCommit1 rfl) (by decide) ?_   -- t33 := fieldAddr 25 t1 1
  refine QL.val (fun wq hq => Y.load1 Tryd.underlying9 rfl (hB1.ext hq).mem.com1 rfl) (by decide) ?_   -- t34 := load 9 t33
  refine QL.call Tryd.func22 rfl rfl rfl (fun wq hq => ret_ext (rText_any _ _ (by omega)) hq) (by simp) ?_   -- t35 := call F22(t34) : 9
  refine QL.val (fun wq hq => Y.addS rfl rfl (by simp only [ByteArray.size_append, bs_size, List.length_append]; omega)) (by decide) ?_   -- t36 := binOp add 9 t32 t35 9
  refine QL.val (fun wq hq => Y.fieldAddr fo_apiCommit2 rfl) (by decide) ?_   -- t37 := fieldAddr 25 t1 2
  refine QL.val (fun wq hq => Y.load1 Tryd.underlying9 rfl (hB1.ext hq).mem.com2 rfl) (by decide) ?_   -- t38 := load 9 t37
  refine QL.call Tryd.func22 rfl rfl rfl (fun wq hq => ret_ext (rText_any _ _ (by omega)) hq) (by simp) ?_   -- t39 := call F22(t38) : 9
  refine QL.val (fun wq hq => Y.addS rfl rfl (by simp only [ByteArray.size_append, bs_size, List.length_append]; omega)) (by decide) ?_   -- t40 := binOp add 9 t36 t39 9
  refine QL.val (fun wq hq => Y.fieldAddr fo_apiCommit3 rfl) (by decide) ?_   -- t41 := fieldAddr 25 t1 3
  refine QL.val (fun wq hq => Y.load1 Tryd.underlying23 rfl (hB1.ext hq).mem.com3 rfl) (by decide) ?_   -- t42 := load 23 t41
  refine QL.val (fun wq hq => Y.len_slice Tryd.underlying23 rfl) (by decide) ?_   -- t43 := call len(t42) : 23
  refine QL.call Tryd.func20 rfl rfl rfl (fun wq hq => ret_ext (rNum_any mo _ (by omega)) hq) (by simp) ?_   -- t44 := call F20(t43) : 3
  refine QL.val (fun wq hq => Y.addS rfl rfl (by simp only [ByteArray.size_append, bs_size, List.length_append]; omega)) (by decide) ?_   -- t45 := binOp add 9 t40 t44 9
  refine QL.val (fun wq hq => Y.assign rfl) (by decide) ?_   -- t5 := assign t45
  refine QL.nil fun w6 hx6 => ?_
  have hz6 := hx6.size
  have hE := hE.thenExt hx6
  have hB1 := hB1.ext hx6
  refine hK14 _ _ ?_; try clear hK14 K14
  refine CW.seq fun K15 hK15 => ?_
  refine CW.seq fun K16 hK16 => ?_
  refine CW.region ?_   -- region 10
  refine WL.val (Y.assign rfl) (by decide) ?_   -- t7 := assign c(0:i64)
  refine WL.nil ?_
  refine hK16 _ _ ?_; try clear hK16 K16
  refine CW.block ?_   -- block 2
  refine CW.loop (X := Nat) (fun x => [(1, .pointer (some ⟨g1, 0, none⟩)), (5, .string (bs (pre ++ ((cm.ops.take x).map opB).flatten))), (7, .int .i64 (x : Int))]) (fun x w0 => x ≤ mo ∧ Ext w w0 ∧ Blk w0 g1 25 (comC (.slice Ap mp cp) cm.author cm.note (.slice Ao mo co))) (fun x => mo - x) 0 (Fr.le.cons rfl (Fr.le.cons (by rw [List.take_zero, List.map_nil, List.flatten_nil, List.append_nil, hpre]; simp only [← bs_append]; rfl) (Fr.le.cons rfl Fr.le.nil))) ⟨Nat.zero_le _, hE, hB1⟩ ?_
  intro x w7 hl7
  clear hE hB1 hM1 hpre
  obtain ⟨hx2, hE, hB1⟩ := hl7
  have hM1 := hB1.mem
  have hfl2 : ((cm.ops.take x).map opB).flatten.length ≤ (cm.ops.take x).length * 51 := flat_len (fun x hx => opB_len (by have := hmo.n (List.mem_of_mem_take hx); omega))
  have htl2 : (cm.ops.take x).length ≤ 2000 := by rw [List.length_take]; omega
  refine CW.seq fun K17 hK17 => ?_
  refine CW.seq fun K18 hK18 => ?_
  refine CW.region ?_   -- region 11
  refine WL.val (Y.move rfl) (by decide) ?_   -- t46 := move t7
  refine WL.val (Y.fieldAddr fo_apiCommit3 rfl) (by decide) ?_   -- t47 := fieldAddr 25 t1 3
  refine WL.val (Y.load1 Tryd.underlying23 rfl hB1.mem.com3 rfl) (by decide) ?_   -- t48 := load 23 t47
  refine WL.val (Y.len_slice Tryd.underlying23 rfl) (by decide) ?_   -- t49 := call len(t48) : 23
  refine WL.val (Y.lss rfl rfl) (by decide) ?_   -- t50 := binOp lss 3 t46 t49 3
  refine WL.nil ?_
  refine hK18 _ _ ?_; try clear hK18 K18
  first | refine CW.condD rfl (fun ht19 => ?_) (fun ht19 => ?_) | refine CW.condND rfl (fun ht19 => ?_) (fun ht19 => ?_) | refine CW.condN rfl (fun ht19 => ?_) (fun ht19 => ?_) | refine CW.cond rfl (fun ht19 => ?_) (fun ht19 => ?_)
  · -- then
    refine CW.skip ?_
    refine hK17 _ _ ?_; try clear hK17 K17
    refine CW.seq fun K20 hK20 => ?_
    refine CW.block ?_   -- block 3
    refine CW.region ?_   -- region 13
    refine WL.val (Y.move rfl) (by decide) ?_   -- t53 := move t5
    refine WL.val (Y.fieldAddr fo_apiCommit3 rfl) (by decide) ?_   -- t54 := fieldAddr 25 t1 3
    refine WL.val (Y.load1 Tryd.underlying23 rfl hB1.mem.com3 rfl) (by decide) ?_   -- t55 := load 23 t54
    refine WL.val (Y.move rfl) (by decide) ?_   -- t56 := move t7
    obtain ⟨y, hy⟩ : ∃ y, cm.ops[x]? = some y := ⟨_, List.getElem?_eq_getElem (by omega)⟩
    obtain ⟨ad, rfl, hmd⟩ := hox _ y hy
    have hy51 := opB_len (x := y) (by have := hmo.n (List.mem_of_getElem? hy); omega)
    refine WL.val (Y.indexAddrN Tryd.underlying23 rfl rfl sz0_apiOp (by omega)) (by decide) ?_   -- t57 := indexAddr 23 t55 t56
    refine WL.val (Y.load Tryd.underlying51 rfl (hmd.ext hE) (sz_apiOp _) rfl) (by decide) ?_   -- t58 := load 51 t57
    refine WL.call Tryd.func23 rfl rfl rfl (rOp_any y _ (rightX_zero (hmo.right' hy)).1 (hmo.n (List.mem_of_getElem? hy))) (by simp) ?_; rintro v w8 ⟨rfl, hx8⟩; have hz8 := hx8.size; have hE := hE.thenExt hx8; have hB1 := hB1.ext hx8   -- t59 := call F23(t58) : 51
    refine WL.val (Y.addS rfl rfl (by simp only [ByteArray.size_append, bs_size, List.length_append]; omega)) (by decide) ?_   -- t60 := binOp add 9 t53 t59 9
    refine WL.val (Y.assign rfl) (by decide) ?_   -- t5 := assign t60
    refine WL.nil ?_
    refine hK20 _ _ ?_; try clear hK20 K20
    refine CW.region ?_   -- region 12
    refine WL.val (Y.move rfl) (by decide) ?_   -- t51 := move t7
    refine WL.val (Y.add rfl rfl ⟨by omega, by omega⟩) (by decide) ?_   -- t52 := binOp add 3 t51 c(1:i64) 3
    refine WL.val (Y.assign rfl) (by decide) ?_   -- t7 := assign t52
    refine WL.nil ?_
    refine ⟨x + 1, by omega, Fr.le.cons rfl (Fr.le.cons (by rw [bs_append, flat_take_succ hy, ← List.append_assoc]; rfl) (Fr.le.cons rfl Fr.le.nil)), by omega, hE, hB1⟩
  -- else
  refine CW.exit ?_   -- exit 2
  refine hK15 _ _ ?_; try clear hK15 K15
  refine CW.seq fun K21 hK21 => ?_
  refine CW.region ?_   -- region 14
  refine WL.val (Y.move rfl) (by decide) ?_   -- t61 := move t5
  refine WL.val (Y.assign rfl) (by decide) ?_   -- t2 := assign t61
  refine WL.val (Y.assign rfl) (by decide) ?_   -- t3 := assign c(0:i64)
  refine WL.nil ?_
  refine hK21 _ _ ?_; try clear hK21 K21
  refine CW.ret ⟨_, rfl, ?_⟩
  have h0 := mayOk_i hmo
  refine ⟨?_, hE⟩
  rw [h0, if_pos rfl, comB, hpl, hol, List.take_of_length_le (by omega), hpre2]
theorem rId_any (u : Value) (c : ComD) (w : World) (hc : Com w u c) : Calls Tryd.prog 9 #[u] w (Ret fun v w' => v = .tuple #[digV (idD c), .int .i64 (mayI c)] ∧ Ext w w') := by
  have hc0 := hc
  obtain ⟨pv, ov, rfl, _⟩ := hc
  obtain ⟨id, hid, hzd, _⟩ := info_apiDigest
  refine calls_of_CWct 18 2 32 [3] [(0, .agg (comC pv c.author c.note ov).toArray)] Tryd.func9 rfl rfl rfl Tryd.underlying34 rfl (by kernel_rfl) (by simp) args1 ?_
  have hE : Ext w w := Chg.refl
  refine CW.seq fun K1 hK1 => ?_
  refine CW.region ?_   -- region 0
  refine WL.box rfl rfl (by decide) fun g1 w1 hx1 hg1 hB1 => ?_   -- t1 := box 25 t0
  have hlt1 := hB1.lt; have hz1 := hx1.size
  have hM1 := hB1.mem; have hz1 := hx1.size; have hE := hE.thenExt hx1
  refine WL.alloc (hid) (hzd) rfl (by decide) fun g2 w2 hx2 hg2 hB2 => ?_   -- t2 := alloc 34
  have hlt2 := hB2.lt; have hz2 := hx2.size
  have hM2 := hB2.mem; have hz2 := hx2.size; have hE := hE.thenExt hx2; have hB1 := hB1.ext hx2
  refine WL.val (Y.assign rfl) (by decide) ?_   -- t3 := assign c(0:i64)
  refine WL.nil ?_
  refine hK1 _ _ ?_; try clear hK1 K1
  refine CW.seq fun K2 hK2 => ?_
  refine CW.region ?_   -- region 1
  refine WL.val (Y.load Tryd.underlying25 rfl hB1.mem (sz_apiCommit _ _ _ _) rfl) (by decide) ?_   -- t7 := load 25 t1
  refine WL.call Tryd.func7 rfl rfl rfl (rEncode_any _ c _ (hc0.ext hE)) (by simp) ?_; rintro v w3 ⟨rfl, hx3⟩; have hz3 := hx3.size; have hE := hE.thenExt hx3; have hB1 := hB1.ext hx3; have hB2 := hB2.ext hx3   -- t8 := call F7(t7) : 25
  refine WL.val (Y.move rfl) (by decide) ?_   -- t6 := move t8
  refine WL.val (Y.extract rfl rfl) (by decide) ?_   -- t9 := extract t6 0
  refine WL.val (Y.extract rfl rfl) (by decide) ?_   -- t10 := extract t6 1
  refine WL.val (Y.assign rfl) (by decide) ?_   -- t4 := assign t9
  refine WL.val (Y.assign rfl) (by decide) ?_   -- t5 := assign t10
  refine WL.nil ?_
  refine hK2 _ _ ?_; try clear hK2 K2
  refine CW.seq fun K3 hK3 => ?_
  refine CW.seq fun K4 hK4 => ?_
  refine CW.region ?_   -- region 2
  refine WL.val (Y.move rfl) (by decide) ?_   -- t11 := move t5
  refine WL.val (Y.neq rfl rfl) (by decide) ?_   -- t12 := binOp neq 3 t11 c(0:i64) 3
  refine WL.nil ?_
  refine hK4 _ _ ?_; try clear hK4 K4
  first | refine CW.condD rfl (fun ht5 => ?_) (fun ht5 => ?_) | refine CW.condND rfl (fun ht5 => ?_) (fun ht5 => ?_) | refine CW.condN rfl (fun ht5 => ?_) (fun ht5 => ?_) | refine CW.cond rfl (fun ht5 => ?_) (fun ht5 => ?_)
  · -- then
    refine CW.seq fun K6 hK6 => ?_
    refine CW.region ?_   -- region 3
    refine WL.val (Y.build0 (build_apiDigest _)) (by decide) ?_   -- t13 := build 34 []
    refine WL.val (Y.move rfl) (by decide) ?_   -- t14 := move t5
    refine WL.store (g := g2) (pre := []) (old := digC Dig.zero) (post := []) (new := digC Dig.zero) rfl rfl rfl rfl (sz_apiDigest _) (by simpa using hB2) (by first | rfl | (simp [digC_length, opC_length]; done) | (simp only [digC_length, opC_length]; omega)) (one_digC) (fun w4 hc4 hB4_ => ?_)   -- _ := store 34 t2 t13
    have hz4 := hc4.size; have hE := hE.step hc4 (fun k h => by omega); have hB1 := hB1.chg hc4 (fun h => by omega)
    have hB2 : Blk w4 g2 TDi (digC Dig.zero) := by simpa using hB4_
    refine WL.val (Y.assign rfl) (by decide) ?_   -- t3 := assign t14
    refine WL.nil ?_
    refine hK6 _ _ ?_; try clear hK6 K6
    refine CW.ret ?_
    exact ⟨_, _, _, rfl, hB2.mem, digC_length _, rfl, by rw [show idD c = Dig.zero from if_neg (by assumption)]; rfl, hE⟩
  -- else
  refine CW.skip ?_
  refine hK3 _ _ ?_; try clear hK3 K3
  refine CW.seq fun K7 hK7 => ?_
  refine CW.region ?_   -- region 4
  refine WL.val (Y.move rfl) (by decide) ?_   -- t15 := move t4
  refine WL.st (St.strBytes Tryd.underlying9 Tryd.underlying27 Tryd.underlying5 rfl (by rw [bs_size, if_pos (by omega)]; have := comB_len (c := c) (by omega); omega)) (by decide) fun v16 w5 hR5 => ?_   -- t16 := convert 9 27 t15
  obtain ⟨hO16, hx5, hf16⟩ := hR5
  have hz5 := hx5.size
  have hE := hE.thenExt hx5
  have hB1 := hB1.ext hx5
  have hB2 := hB2.ext hx5
  rw [bs_toList] at hO16
  refine WL.call Tryd.func24 rfl rfl rfl (rSum_any _ _ _ hO16.by (by rw [if_pos (by omega)]; have := comB_len (c := c) (by omega); omega)) (by simp) ?_; rintro v w6 ⟨rfl, hx6⟩; have hz6 := hx6.size; have hE := hE.thenExt hx6; have hB1 := hB1.ext hx6; have hB2 := hB2.ext hx6   -- t17 := call F24(t16) : 27
  refine WL.store (g := g2) (pre := []) (old := digC Dig.zero) (post := []) (new := digC (shaD (if mayI c = 0 then comB c else []))) rfl rfl rfl rfl (sz_apiDigest _) (by simpa using hB2) (by first | rfl | (simp [digC_length, opC_length]; done) | (simp only [digC_length, opC_length]; omega)) (one_digC) (fun w7 hc7 hB7_ => ?_)   -- _ := store 34 t2 t17
  have hz7 := hc7.size; have hE := hE.step hc7 (fun k h => by omega); have hB1 := hB1.chg hc7 (fun h => by omega)
  have hm0 : mayI c = 0 := by omega
  have hB2 : Blk w7 g2 TDi (digC (idD c)) := by rw [idD, if_pos hm0]; rw [if_pos hm0] at hB7_; simpa using hB7_
  refine WL.val (Y.assign rfl) (by decide) ?_   -- t3 := assign c(0:i64)
  refine WL.nil ?_
  refine hK7 _ _ ?_; try clear hK7 K7
  refine CW.ret ?_
  exact ⟨_, _, _, rfl, hB2.mem, digC_length _, rfl, by rw [hm0], hE⟩
end Go.Proofs.YtfbagecopapfhaaDoor
