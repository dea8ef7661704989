/- StoreBack, walked. No condition. -/
import Derived.Test.YtkbmlnkoejlgmaaDoorXd
set_option linter.unusedSimpArgs false
set_option linter.unusedVariables false
theorem not_t {b : Bool} (h : (!b) = true) : b = false := by simpa using h
theorem not_f {b : Bool} (h : (!b) = false) : b = true := by simpa using h
namespace Go.Proofs.YtkbmlnkoejlgmaaDoor
open Go.RowKit Go.Fw Go.Pl
theorem sz0_suint8 : (Tryd.prog.info? 26).map (·.size) = some 1 := by kernel_rfl

set_option maxHeartbeats 2000000 in
theorem storeBack_any (u : Value) (bss : List (Value × List UInt8)) (i : Int) (w : World) (hu : Bss w u bss) (hi : InI64 i) (hml : bss.length * 24 ≤ 140737488351232) (hK : Mem w ⟨0, 0, none⟩ (wds keysL)) : Calls Tryd.prog 3 #[u, .int .i64 i] w (Ret (True_ w)) := by
  have hK0 := hK
  have hk0 : (0 : Nat) < w.heap.size := hK.lt (fun h => by cases h)
  obtain ⟨⟨A, m, c, rfl, hm, hmc, hcm, hux⟩, huq⟩ := hu
  unfold maxLen at hcm
  refine calls_of_CW 158 [4] [(0, .slice A m c), (1, .int .i64 i)] Tryd.func3 rfl rfl rfl (by simp) args2 ?_
  have hE : Ext w w := Chg.refl
  refine CW.seq fun K1 hK1 => ?_
  refine CW.region ?_   -- region 0
  refine WL.val (Y.assign rfl) (by decide) ?_   -- t4 := assign c(false)
  refine WL.nil ?_
  refine hK1 _ _ ?_; try clear hK1 K1
  refine CW.seq fun K2 hK2 => ?_
  refine CW.region ?_   -- region 1
  refine WL.call Tryd.func7 rfl rfl rfl (stNew_any _) (by simp) ?_; rintro v21 w1 hR1   -- t21 := call F7() : 
  obtain ⟨g, r, rfl, hg, hr, hT, hx1⟩ := hR1
  have hz1 := hx1.size
  have hE := hE.thenExt hx1
  have hK := hK.ext hx1
  have hgr := hT.lt
  refine WL.val (Y.assign rfl) (by decide) ?_   -- t5 := assign t21
  refine WL.nil ?_
  refine hK2 _ _ ?_; try clear hK2 K2
  refine CW.seq fun K3 hK3 => ?_
  refine CW.seq_testE 27 (False) ?_ ?_
  · refine CW.region ?_
    refine WL.val (Y.move rfl) (by decide) ?_   -- t22 := move t5
    refine WL.val (Y.eql_storeStore rfl rfl) (by decide) ?_   -- t23 := binOp eql 23 t22 c(['Go.Value.pointer', 'none']) 23
    refine WL.val (Y.move rfl) (by decide) ?_   -- t24 := move t23
    refine WL.know (d := 24) (u := .bool false) rfl (by rfl) ?_
    refine WL.gcall rfl rfl Tryd.func8 rfl rfl rfl (alive_any _ hK) (by decide) ?_; rintro v w2 ⟨rfl, hx2⟩; have hz2 := hx2.size; have hE := hE.thenExt hx2; have hK := hK.ext hx2; have hT := hT.ext hx2   -- t25 := call F8() :  [if 2=false]
    refine WL.gval rfl rfl (Y.not rfl) (by decide) ?_   -- t26 := unOp not 4 t25 [if 2=false]
    refine WL.val (Y.pick rfl rfl) (by decide) ?_   -- t27 := pick t24 c(true) t26
    refine WL.nil ⟨⟨_, rfl, ?_⟩, hx2, (by repeat (first | exact Fr.le.refl | refine Fr.le.push rfl ?_))⟩
    first | (simp only [*, Bool.not_eq_true', decide_eq_false_iff_not, decide_eq_true_eq, not_true_eq_false, not_false_eq_true, true_and, false_and, and_true, and_false, false_or, or_false, true_or, or_true, iff_true, true_iff, iff_false, false_iff]; done) | (simp_all; done) | (refine congrArg Value.bool (Bool.eq_iff_iff.2 ?_); simp_all; done) | (simp_all; omega)
  intro w3 hx3; have hz3 := hx3.size; have hE := hE.thenExt hx3; have hK := hK.ext hx3; have hT := hT.ext hx3
  first | refine CW.condD rfl (fun ht4 => ?_) (fun ht4 => ?_) | refine CW.condND rfl (fun ht4 => ?_) (fun ht4 => ?_) | refine CW.condN rfl (fun ht4 => ?_) (fun ht4 => ?_) | refine CW.cond rfl (fun ht4 => ?_) (fun ht4 => ?_)
  · -- then
    refine CW.seq fun K5 hK5 => ?_
    refine CW.region ?_   -- region 3
    refine WL.val (Y.assign rfl) (by decide) ?_   -- t4 := assign c(false)
    refine WL.nil ?_
    refine hK5 _ _ ?_; try clear hK5 K5
    refine CW.ret ⟨_, rfl, ?_⟩
    exact False.elim (by assumption)
  -- else
  refine CW.skip ?_
  refine hK3 _ _ ?_; try clear hK3 K3
  refine CW.seq fun K6 hK6 => ?_
  refine CW.seq fun K7 hK7 => ?_
  refine CW.region ?_   -- region 4
  refine WL.val (Y.move rfl) (by decide) ?_   -- t28 := move t0
  refine WL.val (Y.len_slice Tryd.underlying22 rfl) (by decide) ?_   -- t29 := call len(t28) : 22
  refine WL.val (Y.move rfl) (by decide) ?_   -- t30 := move c(0:i64)
  refine WL.nil ?_
  refine hK7 _ _ ?_; try clear hK7 K7
  refine CW.block ?_   -- block 0
  refine CW.loop (X := List Ent × Nat) (fun x => [(0, .slice A m c), (1, .int .i64 i), (5, .pointer (some ⟨g, 0, none⟩)), (28, .slice A m c), (29, .int .i64 (m : Int)), (30, .int .i64 (x.2 : Int))]) (fun x w0 => x.2 ≤ m ∧ (x.2 = 0 → x.1 = []) ∧ Ext w w0 ∧ StoreAt w0 g r x.1) (fun x => m - x.2) ([], 0) (by repeat (first | exact Fr.le.nil | refine Fr.le.cons rfl ?_)) ⟨Nat.zero_le _, fun _ => rfl, hE, hT⟩ ?_
  intro x w4 hl4
  clear hE hT hK
  obtain ⟨l, x⟩ := x
  dsimp only at hl4 ⊢
  obtain ⟨hx, hl0, hE, hT⟩ := hl4
  have hK := hK0.ext hE
  have hgr2 := hT.lt
  have hzE := hE.size
  refine CW.seq fun K8 hK8 => ?_
  refine CW.region ?_   -- region 5
  refine WL.val (Y.lss rfl rfl) (by decide) ?_   -- t31 := binOp lss 3 t30 t29 3
  refine WL.nil ?_
  refine hK8 _ _ ?_; try clear hK8 K8
  refine CW.seq fun K9 hK9 => ?_
  first | refine CW.condD rfl (fun ht10 => ?_) (fun ht10 => ?_) | refine CW.condND rfl (fun ht10 => ?_) (fun ht10 => ?_) | refine CW.condN rfl (fun ht10 => ?_) (fun ht10 => ?_) | refine CW.cond rfl (fun ht10 => ?_) (fun ht10 => ?_)
  · -- then
    refine CW.skip ?_
    refine hK9 _ _ ?_; try clear hK9 K9
    refine CW.seq_to (X := List Ent) (fun u => [(0, .slice A m c), (1, .int .i64 i), (5, .pointer (some ⟨g, 0, none⟩)), (28, .slice A m c), (29, .int .i64 (m : Int)), (30, .int .i64 (x : Int))]) (fun u w0 => Ext w w0 ∧ StoreAt w0 g r u) ?_ ?_
    · skip
      refine CW.block ?_   -- block 1
      refine CW.seq fun K12 hK12 => ?_
      obtain ⟨⟨v, b⟩, hvb⟩ : ∃ y, bss[x]? = some y := ⟨_, List.getElem?_eq_getElem (by omega)⟩; obtain ⟨a, rfl, hma⟩ := hux _ _ hvb; obtain ⟨hb, hbl⟩ := huq _ _ hvb; obtain ⟨Ab, mb, cb, hbv⟩ := hb.lens; dsimp only at hbv; subst hbv; dsimp only at hb hbl; refine CW.region ?_   -- region 6
      refine WL.val (Y.indexAddrN Tryd.underlying22 rfl rfl sz0_suint8 (by omega)) (by decide) ?_   -- t32 := indexAddr 22 t28 t30
      refine WL.val (Y.load1 Tryd.underlying26 rfl ((hma.ext hE).cell0) rfl) (by decide) ?_   -- t33 := load 26 t32
      refine WL.val (Y.assign rfl) (by decide) ?_   -- t7 := assign t33
      refine WL.nil ?_
      refine hK12 _ _ ?_; try clear hK12 K12
      refine CW.seq fun K13 hK13 => ?_
      refine CW.region ?_   -- region 7
      refine WL.val (Y.move rfl) (by decide) ?_   -- t35 := move t5
      refine WL.val (Y.move rfl) (by decide) ?_   -- t36 := move t7
      refine WL.call Tryd.func9 rfl rfl rfl (stPut_any g r l _ b _ hT hK ⟨by omega, by omega⟩ (hb.ext hE) (fun h0 k hk => by have := hb.lt h0 k hk; omega)) (by simp) ?_; rintro v37 w5 hR5   -- t37 := call F9(t35, t36) : 23,26
      obtain ⟨rfl, ⟨l2, hl2, hT⟩, hc5⟩ := hR5
      have hz5 := hc5.size
      have hE := hE.step hc5 (fun k h => by rcases h with h | h <;> omega)
      have hK := hK0.ext hE
      have hpe := putE_cases l b
      refine WL.val (Y.move rfl) (by decide) ?_   -- t34 := move t37
      refine WL.val (Y.extract rfl rfl) (by decide) ?_   -- t38 := extract t34 0
      refine WL.val (Y.extract rfl rfl) (by decide) ?_   -- t39 := extract t34 1
      refine as_apiDigest rfl (by simp) (by decide) fun g8 w6 hx6 hg8 hB8 => ?_   -- alloc 28; store 28 t8 t38
      have hlt8 := hB8.lt; have hz6 := hx6.size
      have hM8 := hB8.mem; have hz6 := hx6.size; have hE := hE.thenExt hx6; have hK := hK.ext hx6; have hT := hT.ext hx6
      refine WL.val (Y.assign rfl) (by decide) ?_   -- t9 := assign t39
      refine WL.nil ?_
      refine hK13 _ _ ?_; try clear hK13 K13
      refine CW.seq fun K14 hK14 => ?_
      refine CW.seq_test 49 (putE l b ≠ 0) ?_ ?_
      · refine CW.region ?_
        refine WL.val (Y.move rfl) (by decide) ?_   -- t40 := move t9
        refine WL.val (Y.eql rfl rfl) (by decide) ?_   -- t41 := binOp eql 29 t40 c(14:i64) 29
        refine WL.val (Y.move rfl) (by decide) ?_   -- t42 := move t41
        first | refine WL.casesD (d := 42) rfl (fun hg42 => ?_) (fun hg42 => ?_) | refine WL.casesND (d := 42) rfl (fun hg42 => ?_) (fun hg42 => ?_) | refine WL.cases (d := 42) rfl (fun hg42 => ?_) (fun hg42 => ?_)
        · -- t42 = T
          refine WL.goff rfl rfl (by decide) ?_   -- t43 := move t9 [if 2=false]
          refine WL.goff rfl rfl (by decide) ?_   -- t44 := binOp eql 29 t43 c(3:i64) 29 [if 2=false]
          refine WL.val (Y.pick rfl rfl) (by decide) ?_   -- t45 := pick t42 c(true) t44
          refine WL.val (Y.move rfl) (by decide) ?_   -- t46 := move t45
          refine WL.goff rfl rfl (by decide) ?_   -- t47 := move t9 [if 6=false]
          refine WL.goff rfl rfl (by decide) ?_   -- t48 := binOp eql 29 t47 c(10:i64) 29 [if 6=false]
          refine WL.val (Y.pick rfl rfl) (by decide) ?_   -- t49 := pick t46 c(true) t48
          refine WL.nil ⟨⟨_, rfl, ?_⟩, rfl, (by repeat (first | exact Fr.le.refl | refine Fr.le.push rfl ?_))⟩
          first | (simp only [*, Bool.not_eq_true', decide_eq_false_iff_not, decide_eq_true_eq, not_true_eq_false, not_false_eq_true, true_and, false_and, and_true, and_false, false_or, or_false, true_or, or_true, iff_true, true_iff, iff_false, false_iff]; done) | (simp_all; done) | (refine congrArg Value.bool (Bool.eq_iff_iff.2 ?_); simp_all; done) | (simp_all; omega)
        · -- t42 = F
          refine WL.gval rfl rfl (Y.move rfl) (by decide) ?_   -- t43 := move t9 [if 2=false]
          refine WL.gval rfl rfl (Y.eql rfl rfl) (by decide) ?_   -- t44 := binOp eql 29 t43 c(3:i64) 29 [if 2=false]
          refine WL.val (Y.pick rfl rfl) (by decide) ?_   -- t45 := pick t42 c(true) t44
          refine WL.val (Y.move rfl) (by decide) ?_   -- t46 := move t45
          first | refine WL.casesD (d := 46) rfl (fun hg46 => ?_) (fun hg46 => ?_) | refine WL.casesND (d := 46) rfl (fun hg46 => ?_) (fun hg46 => ?_) | refine WL.cases (d := 46) rfl (fun hg46 => ?_) (fun hg46 => ?_)
          · -- t46 = T
            refine WL.goff rfl rfl (by decide) ?_   -- t47 := move t9 [if 6=false]
            refine WL.goff rfl rfl (by decide) ?_   -- t48 := binOp eql 29 t47 c(10:i64) 29 [if 6=false]
            refine WL.val (Y.pick rfl rfl) (by decide) ?_   -- t49 := pick t46 c(true) t48
            refine WL.nil ⟨⟨_, rfl, ?_⟩, rfl, (by repeat (first | exact Fr.le.refl | refine Fr.le.push rfl ?_))⟩
            first | (simp only [*, Bool.not_eq_true', decide_eq_false_iff_not, decide_eq_true_eq, not_true_eq_false, not_false_eq_true, true_and, false_and, and_true, and_false, false_or, or_false, true_or, or_true, iff_true, true_iff, iff_false, false_iff]; done) | (simp_all; done) | (refine congrArg Value.bool (Bool.eq_iff_iff.2 ?_); simp_all; done) | (simp_all; omega)
          · -- t46 = F
            refine WL.gval rfl rfl (Y.move rfl) (by decide) ?_   -- t47 := move t9 [if 6=false]
            refine WL.gval rfl rfl (Y.eql rfl rfl) (by decide) ?_   -- t48 := binOp eql 29 t47 c(10:i64) 29 [if 6=false]
            refine WL.val (Y.pick rfl rfl) (by decide) ?_   -- t49 := pick t46 c(true) t48
            refine WL.nil ⟨⟨_, rfl, ?_⟩, rfl, (by repeat (first | exact Fr.le.refl | refine Fr.le.push rfl ?_))⟩
            first | (simp only [*, Bool.not_eq_true', decide_eq_false_iff_not, decide_eq_true_eq, not_true_eq_false, not_false_eq_true, true_and, false_and, and_true, and_false, false_or, or_false, true_or, or_true, iff_true, true_iff, iff_false, false_iff]; done) | (simp_all; done) | (refine congrArg Value.bool (Bool.eq_iff_iff.2 ?_); simp_all; done) | (simp_all; omega)
      first | refine CW.condD rfl (fun ht15 => ?_) (fun ht15 => ?_) | refine CW.condND rfl (fun ht15 => ?_) (fun ht15 => ?_) | refine CW.condN rfl (fun ht15 => ?_) (fun ht15 => ?_) | refine CW.cond rfl (fun ht15 => ?_) (fun ht15 => ?_)
      · -- then
        refine CW.exit ?_   -- exit 1
        exact ⟨l2, (by repeat (first | exact Fr.le.nil | refine Fr.le.cons rfl ?_)), hE, hT⟩
      -- else
      refine CW.skip ?_
      refine hK14 _ _ ?_; try clear hK14 K14
      refine CW.seq fun K16 hK16 => ?_
      have he : putE l b = 0 := Decidable.not_not.1 (by assumption); obtain ⟨hgi, hgb⟩ := putL_get he hl2; have hpd := putD_ok he; rw [← hpd] at hgi hgb; refine CW.region ?_   -- region 9
      refine WL.val (Y.move rfl) (by decide) ?_   -- t51 := move t5
      refine WL.val (Y.load Tryd.underlying28 rfl hB8.mem (sz_apiDigest _) rfl) (by decide) ?_   -- t52 := load 28 t8
      refine WL.call Tryd.func10 rfl rfl rfl (stGet_any g r l2 (putD l b) _ hT) (by simp) ?_; rintro v53 w7 hR7   -- t53 := call F10(t51, t52) : 23,28
      obtain ⟨u10, rfl, hO7, hf7, hx7⟩ := hR7
      have hz7 := hx7.size
      have hE := hE.thenExt hx7
      have hT := hT.ext hx7
      have hK := hK.ext hx7
      have hB8 := hB8.ext hx7
      have hO7b := hO7.by
      obtain ⟨A10, m10, c10, rfl⟩ := hO7b.lens
      refine WL.val (Y.move rfl) (by decide) ?_   -- t50 := move t53
      refine WL.val (Y.extract rfl rfl) (by decide) ?_   -- t54 := extract t50 0
      refine WL.val (Y.extract rfl rfl) (by decide) ?_   -- t55 := extract t50 1
      refine WL.val (Y.assign rfl) (by decide) ?_   -- t10 := assign t54
      refine WL.val (Y.assign rfl) (by decide) ?_   -- t11 := assign t55
      refine WL.nil ?_
      refine hK16 _ _ ?_; try clear hK16 K16
      refine CW.seq_testE 74 (False) ?_ ?_
      · refine CW.quiet (fun wq => Ext w7 wq) (by kernel_rfl) (by kernel_rfl) Chg.drew ?_
        refine QL.val (fun wq hq => Y.move rfl) (by decide) ?_   -- t56 := move t9
        refine QL.val (fun wq hq => Y.neq rfl rfl) (by decide) ?_   -- t57 := binOp neq 29 t56 c(0:i64) 29
        refine QL.val (fun wq hq => Y.move rfl) (by decide) ?_   -- t58 := move t57
        refine QL.know (d := 58) (u := .bool false) rfl (by rw [decide_eq_false (fun h => h he)]) ?_
        refine QL.gval rfl rfl (fun wq hq => Y.move rfl) (by decide) ?_   -- t59 := move t11 [if 2=false]
        refine QL.gval rfl rfl (fun wq hq => Y.neq rfl rfl) (by decide) ?_   -- t60 := binOp neq 29 t59 c(0:i64) 29 [if 2=false]
        refine QL.val (fun wq hq => Y.pick rfl rfl) (by decide) ?_   -- t61 := pick t58 c(true) t60
        refine QL.val (fun wq hq => Y.move rfl) (by decide) ?_   -- t62 := move t61
        refine QL.know (d := 62) (u := .bool false) rfl (by rw [decide_eq_false (fun h => h hgi)]) ?_
        refine QL.gval rfl rfl (fun wq hq => Y.move rfl) (by decide) ?_   -- t63 := move t10 [if 6=false]
        refine QL.gval rfl rfl (fun wq hq => Y.bytes_string Tryd.underlying26 Tryd.underlying5 Tryd.underlying9 rfl hO7b.len.1 (hO7b.ext hq).mem.1 hO7b.mem.2) (by decide) ?_   -- t64 := convert 26 9 t63 [if 6=false]
        refine QL.gval rfl rfl (fun wq hq => Y.move rfl) (by decide) ?_   -- t65 := move t7 [if 6=false]
        refine QL.gval rfl rfl (fun wq hq => Y.bytes_string Tryd.underlying26 Tryd.underlying5 Tryd.underlying9 rfl hb.len.1 ((hb.ext hE).ext hq).mem.1 hb.mem.2) (by decide) ?_   -- t66 := convert 26 9 t65 [if 6=false]
        refine QL.gval rfl rfl (fun wq hq => Y.neq_string rfl rfl) (by decide) ?_   -- t67 := binOp neq 9 t64 t66 9 [if 6=false]
        refine QL.val (fun wq hq => Y.pick rfl rfl) (by decide) ?_   -- t68 := pick t62 c(true) t67
        refine QL.val (fun wq hq => Y.move rfl) (by decide) ?_   -- t69 := move t68
        refine QL.know (d := 69) (u := .bool false) rfl (by rw [bs_toList, bs_toList, hgb, beq_self_eq_true]; rfl) ?_
        refine QL.gval rfl rfl (fun wq hq => Y.load Tryd.underlying28 rfl (hB8.ext hq).mem (sz_apiDigest _) rfl) (by decide) ?_   -- t70 := load 28 t8 [if 13=false]
        refine QL.gval rfl rfl (fun wq hq => Y.move rfl) (by decide) ?_   -- t71 := move t7 [if 13=false]
        refine QL.gcall rfl rfl Tryd.func11 rfl rfl rfl (fun wq hq => ret_ext (sum_any _ b _ ((hb.ext hE).ext hq) (fun h0 k hk => by have := hb.lt h0 k hk; have := hE.size; have := hq.size; omega) (hK.ext hq) (by omega)) hq) (by decide) ?_   -- t72 := call F11(t71) : 26 [if 13=false]
        refine QL.gval rfl rfl (fun wq hq => Y.neq_apiDigest rfl rfl) (by decide) ?_   -- t73 := binOp neq 28 t70 t72 28 [if 13=false]
        refine QL.val (fun wq hq => Y.pick rfl rfl) (by decide) ?_   -- t74 := pick t69 c(true) t73
        refine QL.nil fun wq hq => ⟨⟨_, rfl, ?_⟩, hq, (by repeat (first | exact Fr.le.refl | refine Fr.le.push rfl ?_))⟩
        first | (simp only [*, Bool.not_eq_true', decide_eq_false_iff_not, decide_eq_true_eq, not_true_eq_false, not_false_eq_true, true_and, false_and, and_true, and_false, false_or, or_false, true_or, or_true, iff_true, true_iff, iff_false, false_iff]; done) | (simp_all; done) | (refine congrArg Value.bool (Bool.eq_iff_iff.2 ?_); simp_all; done) | (simp_all; omega)
      intro w8 hx8; have hz8 := hx8.size; have hE := hE.thenExt hx8; have hK := hK.ext hx8; have hT := hT.ext hx8; have hB8 := hB8.ext hx8
      first | refine CW.condD rfl (fun ht17 => ?_) (fun ht17 => ?_) | refine CW.condND rfl (fun ht17 => ?_) (fun ht17 => ?_) | refine CW.condN rfl (fun ht17 => ?_) (fun ht17 => ?_) | refine CW.cond rfl (fun ht17 => ?_) (fun ht17 => ?_)
      · -- then
        refine CW.seq fun K18 hK18 => ?_
        refine CW.region ?_   -- region 11
        refine WL.val (Y.assign rfl) (by decide) ?_   -- t4 := assign c(false)
        refine WL.nil ?_
        refine hK18 _ _ ?_; try clear hK18 K18
        refine CW.ret ⟨_, rfl, ?_⟩
        exact False.elim (by assumption)
      -- else
      refine CW.skip ?_
      exact ⟨l2, (by repeat (first | exact Fr.le.nil | refine Fr.le.cons rfl ?_)), hE, hT⟩
    rintro u w9 hj9
    clear hE hT hK
    obtain ⟨hE, hT⟩ := hj9
    refine CW.region ?_   -- region 12
    refine WL.val (Y.add rfl rfl ⟨by omega, by omega⟩) (by decide) ?_   -- t75 := binOp add 3 t30 c(1:i64) 3
    refine WL.val (Y.move rfl) (by decide) ?_   -- t30 := move t75
    refine WL.nil ?_
    refine ⟨(u, x + 1), by show m - (x + 1) < m - x; omega, (by repeat (first | exact Fr.le.nil | refine Fr.le.cons rfl ?_)), by show x + 1 ≤ m; omega, fun h => by simp at h, hE, hT⟩
  -- else
  refine CW.exit ?_   -- exit 0
  refine hK6 _ _ ?_; try clear hK6 K6
  refine CW.seq fun K19 hK19 => ?_
  refine CW.seq fun K20 hK20 => ?_
  refine CW.region ?_   -- region 13
  refine WL.val (Y.move rfl) (by decide) ?_   -- t76 := move t0
  refine WL.val (Y.len_slice Tryd.underlying22 rfl) (by decide) ?_   -- t77 := call len(t76) : 22
  refine WL.val (Y.eql rfl rfl) (by decide) ?_   -- t78 := binOp eql 3 t77 c(0:i64) 3
  refine WL.nil ?_
  refine hK20 _ _ ?_; try clear hK20 K20
  first | refine CW.condD rfl (fun ht21 => ?_) (fun ht21 => ?_) | refine CW.condND rfl (fun ht21 => ?_) (fun ht21 => ?_) | refine CW.condN rfl (fun ht21 => ?_) (fun ht21 => ?_) | refine CW.cond rfl (fun ht21 => ?_) (fun ht21 => ?_)
  · -- then
    refine CW.seq fun K22 hK22 => ?_
    refine CW.region ?_   -- region 14
    refine WL.val (Y.move rfl) (by decide) ?_   -- t79 := move t5
    refine WL.call Tryd.func12 rfl rfl rfl (stLen_any g r l _ hT) (by simp) ?_; rintro v w10 ⟨rfl, hx10⟩; have hz10 := hx10.size; have hE := hE.thenExt hx10; have hK := hK.ext hx10; have hT := hT.ext hx10   -- t80 := call F12(t79) : 23
    refine WL.val (Y.eql rfl rfl) (by decide) ?_   -- t81 := binOp eql 3 t80 c(0:i64) 3
    refine WL.val (Y.assign rfl) (by decide) ?_   -- t4 := assign t81
    refine WL.nil ?_
    refine hK22 _ _ ?_; try clear hK22 K22
    refine CW.ret ⟨_, rfl, ?_⟩
    exact ⟨by rw [hl0 (by omega)]; rfl, hE⟩
  -- else
  refine CW.skip ?_
  refine hK19 _ _ ?_; try clear hK19 K19
  refine CW.seq fun K23 hK23 => ?_
  have hm0 : 0 < m := (by omega); obtain ⟨ht0, ht1⟩ := tmod_pos (i := i) (m := m) hm0; obtain ⟨j, hj, hjm⟩ := tmod_twice (i := i) (m := m) hm0; obtain ⟨⟨v, b⟩, hvb⟩ : ∃ y, bss[j]? = some y := ⟨_, List.getElem?_eq_getElem (by omega)⟩; obtain ⟨a, rfl, hma⟩ := hux _ _ hvb; obtain ⟨hb, hbl⟩ := huq _ _ hvb; dsimp only at hb hbl; have hno := dropL_none (d := shaD b) hT.keys; have htot := hT.size; have hfew := hT.few; have hdd := dropL_same hno; refine CW.region ?_   -- region 15
  refine WL.val (Y.move rfl) (by decide) ?_   -- t82 := move t0
  refine WL.val (Y.move rfl) (by decide) ?_   -- t83 := move t1
  refine WL.val (Y.move rfl) (by decide) ?_   -- t84 := move t0
  refine WL.val (Y.len_slice Tryd.underlying22 rfl) (by decide) ?_   -- t85 := call len(t84) : 22
  refine WL.val (Y.rem rfl rfl (by omega)) (by decide) ?_   -- t86 := binOp rem 3 t83 t85 3
  refine WL.val (Y.move rfl) (by decide) ?_   -- t87 := move t0
  refine WL.val (Y.len_slice Tryd.underlying22 rfl) (by decide) ?_   -- t88 := call len(t87) : 22
  refine WL.val (Y.add rfl rfl ⟨by omega, by omega⟩) (by decide) ?_   -- t89 := binOp add 3 t86 t88 3
  refine WL.val (Y.move rfl) (by decide) ?_   -- t90 := move t0
  refine WL.val (Y.len_slice Tryd.underlying22 rfl) (by decide) ?_   -- t91 := call len(t90) : 22
  refine WL.val (Y.rem rfl rfl (by omega)) (by decide) ?_   -- t92
  rw [hj]
  refine WL.val (Y.indexAddrN Tryd.underlying22 rfl rfl sz0_suint8 (by omega)) (by decide) ?_   -- t93 := indexAddr 22 t82 t92
  refine WL.val (Y.load1 Tryd.underlying26 rfl ((hma.ext hE).cell0) rfl) (by decide) ?_   -- t94 := load 26 t93
  refine WL.val (Y.assign rfl) (by decide) ?_   -- t12 := assign t94
  refine WL.nil ?_
  refine hK23 _ _ ?_; try clear hK23 K23
  refine CW.seq fun K24 hK24 => ?_
  refine CW.region ?_   -- region 16
  refine WL.val (Y.move rfl) (by decide) ?_   -- t95 := move t12
  refine WL.call Tryd.func11 rfl rfl rfl (sum_any _ b _ (hb.ext hE) (fun h0 k hk => by have := hb.lt h0 k hk; omega) hK (by omega)) (by simp) ?_; rintro v w11 ⟨rfl, hx11⟩; have hz11 := hx11.size; have hE := hE.thenExt hx11; have hK := hK.ext hx11; have hT := hT.ext hx11   -- t96 := call F11(t95) : 26
  refine as_apiDigest rfl (by simp) (by decide) fun g13 w12 hx12 hg13 hB13 => ?_   -- alloc 28; store 28 t13 t96
  have hlt13 := hB13.lt; have hz12 := hx12.size
  have hM13 := hB13.mem; have hz12 := hx12.size; have hE := hE.thenExt hx12; have hK := hK.ext hx12; have hT := hT.ext hx12
  refine WL.nil ?_
  refine hK24 _ _ ?_; try clear hK24 K24
  refine CW.seq fun K25 hK25 => ?_
  refine CW.region ?_   -- region 17
  refine WL.val (Y.move rfl) (by decide) ?_   -- t97 := move t5
  refine WL.val (Y.load Tryd.underlying28 rfl hB13.mem (sz_apiDigest _) rfl) (by decide) ?_   -- t98 := load 28 t13
  refine WL.call Tryd.func13 rfl rfl rfl (stHas_any g r l (shaD b) _ hT) (by simp) ?_; rintro v w13 ⟨rfl, hx13⟩; have hz13 := hx13.size; have hE := hE.thenExt hx13; have hK := hK.ext hx13; have hT := hT.ext hx13; have hB13 := hB13.ext hx13   -- t99 := call F13(t97, t98) : 23,28
  refine WL.val (Y.assign rfl) (by decide) ?_   -- t14 := assign t99
  refine WL.nil ?_
  refine hK25 _ _ ?_; try clear hK25 K25
  refine CW.seq fun K26 hK26 => ?_
  refine CW.region ?_   -- region 18
  refine WL.val (Y.move rfl) (by decide) ?_   -- t100 := move t5
  refine WL.call Tryd.func12 rfl rfl rfl (stLen_any g r l _ hT) (by simp) ?_; rintro v w14 ⟨rfl, hx14⟩; have hz14 := hx14.size; have hE := hE.thenExt hx14; have hK := hK.ext hx14; have hT := hT.ext hx14; have hB13 := hB13.ext hx14   -- t101 := call F12(t100) : 23
  refine WL.val (Y.move rfl) (by decide) ?_   -- t102 := move t5
  refine WL.call Tryd.func14 rfl rfl rfl (stSize_any g r l _ hT) (by simp) ?_; rintro v w15 ⟨rfl, hx15⟩; have hz15 := hx15.size; have hE := hE.thenExt hx15; have hK := hK.ext hx15; have hT := hT.ext hx15; have hB13 := hB13.ext hx15   -- t103 := call F14(t102) : 23
  refine WL.val (Y.assign rfl) (by decide) ?_   -- t15 := assign t101
  refine WL.val (Y.assign rfl) (by decide) ?_   -- t16 := assign t103
  refine WL.nil ?_
  refine hK26 _ _ ?_; try clear hK26 K26
  refine CW.seq fun K27 hK27 => ?_
  refine CW.region ?_   -- region 19
  refine WL.val (Y.move rfl) (by decide) ?_   -- t105 := move t5
  refine WL.val (Y.load Tryd.underlying28 rfl hB13.mem (sz_apiDigest _) rfl) (by decide) ?_   -- t106 := load 28 t13
  refine WL.call Tryd.func10 rfl rfl rfl (stGet_any g r l (shaD b) _ hT) (by simp) ?_; rintro v107 w16 hR16   -- t107 := call F10(t105, t106) : 23,28
  obtain ⟨u17, rfl, hO16, hf16, hx16⟩ := hR16
  have hz16 := hx16.size
  have hE := hE.thenExt hx16
  have hT := hT.ext hx16
  have hK := hK.ext hx16
  have hB13 := hB13.ext hx16
  have hO16b := hO16.by
  obtain ⟨A17, m17, c17, rfl⟩ := hO16b.lens
  have h16l := hO16b.len
  unfold maxLen at h16l
  refine WL.val (Y.move rfl) (by decide) ?_   -- t104 := move t107
  refine WL.val (Y.extract rfl rfl) (by decide) ?_   -- t108 := extract t104 0
  refine WL.val (Y.extract rfl rfl) (by decide) ?_   -- t109 := extract t104 1
  refine WL.val (Y.assign rfl) (by decide) ?_   -- t17 := assign t108
  refine WL.val (Y.assign rfl) (by decide) ?_   -- t18 := assign t109
  refine WL.nil ?_
  refine hK27 _ _ ?_; try clear hK27 K27
  refine CW.seq fun K28 hK28 => ?_
  refine CW.seq fun K29 hK29 => ?_
  refine CW.region ?_   -- region 20
  refine WL.val (Y.move rfl) (by decide) ?_   -- t110 := move t5
  refine WL.val (Y.load Tryd.underlying28 rfl hB13.mem (sz_apiDigest _) rfl) (by decide) ?_   -- t111 := load 28 t13
  refine WL.call Tryd.func15 rfl rfl rfl (stDrop_any g r l (shaD b) _ hT) (by simp) ?_; rintro v112 w17 hR17   -- t112 := call F15(t110, t111) : 23,28
  obtain ⟨rfl, hT, hc17⟩ := hR17
  have hz17 := hc17.size
  have hE := hE.step hc17 (fun k h => by rcases h with h | h <;> omega)
  have hK := hK0.ext hE
  have hB13 := hB13.chg hc17 (fun h => by rcases h with h | h <;> omega)
  refine WL.val (Y.move rfl) (by decide) ?_   -- t113 := move t14
  refine WL.val (Y.neq_bool Tryd.underlying4 rfl rfl) (by decide) ?_   -- t114 := binOp neq 4 t112 t113 4
  refine WL.nil ?_
  refine hK29 _ _ ?_; try clear hK29 K29
  first | refine CW.condD rfl (fun ht30 => ?_) (fun ht30 => ?_) | refine CW.condND rfl (fun ht30 => ?_) (fun ht30 => ?_) | refine CW.condN rfl (fun ht30 => ?_) (fun ht30 => ?_) | refine CW.cond rfl (fun ht30 => ?_) (fun ht30 => ?_)
  · -- then
    refine CW.seq fun K31 hK31 => ?_
    refine CW.region ?_   -- region 21
    refine WL.val (Y.assign rfl) (by decide) ?_   -- t4 := assign c(false)
    refine WL.nil ?_
    refine hK31 _ _ ?_; try clear hK31 K31
    refine CW.ret ⟨_, rfl, ?_⟩
    simp_all
  -- else
  refine CW.skip ?_
  refine hK28 _ _ ?_; try clear hK28 K28
  refine CW.seq fun K32 hK32 => ?_
  refine CW.region ?_   -- region 22
  refine WL.val (Y.move rfl) (by decide) ?_   -- t116 := move t5
  refine WL.val (Y.load Tryd.underlying28 rfl hB13.mem (sz_apiDigest _) rfl) (by decide) ?_   -- t117 := load 28 t13
  refine WL.call Tryd.func10 rfl rfl rfl (stGet_any g r _ (shaD b) _ hT) (by simp) ?_; rintro v118 w18 hR18   -- t118 := call F10(t116, t117) : 23,28
  obtain ⟨u19, rfl, hO18, hf18, hx18⟩ := hR18
  have hz18 := hx18.size
  have hE := hE.thenExt hx18
  have hT := hT.ext hx18
  have hK := hK.ext hx18
  have hB13 := hB13.ext hx18
  have hO18b := hO18.by
  obtain ⟨A19, m19, c19, rfl⟩ := hO18b.lens
  refine WL.val (Y.move rfl) (by decide) ?_   -- t115 := move t118
  refine WL.val (Y.extract rfl rfl) (by decide) ?_   -- t119 := extract t115 0
  refine WL.val (Y.extract rfl rfl) (by decide) ?_   -- t120 := extract t115 1
  refine WL.val (Y.assign rfl) (by decide) ?_   -- t19 := assign t119
  refine WL.val (Y.assign rfl) (by decide) ?_   -- t20 := assign t120
  refine WL.nil ?_
  refine hK32 _ _ ?_; try clear hK32 K32
  refine CW.seq fun K33 hK33 => ?_
  refine CW.region ?_   -- region 23
  refine WL.val (Y.move rfl) (by decide) ?_   -- t121 := move t20
  refine WL.val (Y.eql rfl rfl) (by decide) ?_   -- t122 := binOp eql 29 t121 c(5:i64) 29
  refine WL.val (Y.move rfl) (by decide) ?_   -- t123 := move t122
  refine WL.know (d := 123) (u := .bool true) rfl (by rw [decide_eq_true (by rw [getI, hno]; rfl)]) ?_
  refine WL.gval rfl rfl (Y.move rfl) (by decide) ?_   -- t124 := move t5 [if 2=true]
  refine WL.gval rfl rfl (Y.load Tryd.underlying28 rfl hB13.mem (sz_apiDigest _) rfl) (by decide) ?_   -- t125 := load 28 t13 [if 2=true]
  refine WL.gcall rfl rfl Tryd.func15 rfl rfl rfl (stDrop_any g r (dropL l (shaD b)) (shaD b) _ hT) (by decide) ?_; rintro v126 w19 hR19   -- t126 := call F15(t124, t125) : 23,28 [if 2=true]
  obtain ⟨rfl, hT, hc19⟩ := hR19
  have hz19 := hc19.size
  have hE := hE.step hc19 (fun k h => by rcases h with h | h <;> omega)
  have hK := hK0.ext hE
  have hB13 := hB13.chg hc19 (fun h => by rcases h with h | h <;> omega)
  refine WL.gval rfl rfl (Y.not rfl) (by decide) ?_   -- t127 := unOp not 4 t126 [if 2=true]
  refine WL.val (Y.pick rfl rfl) (by decide) ?_   -- t128 := pick t123 t127 c(false)
  refine WL.val (Y.move rfl) (by decide) ?_   -- t129 := move t128
  refine WL.know (d := 129) (u := .bool true) rfl (by rw [hno]; rfl) ?_
  refine WL.gval rfl rfl (Y.move rfl) (by decide) ?_   -- t130 := move t14 [if 8=true]
  refine WL.gval rfl rfl (Y.not rfl) (by decide) ?_   -- t131 := unOp not 4 t130 [if 8=true]
  refine WL.gval rfl rfl (Y.move rfl) (by decide) ?_   -- t132 := move t131 [if 8=true]
  first | refine WL.casesD (d := 132) rfl (fun hg132 => ?_) (fun hg132 => ?_) | refine WL.casesND (d := 132) rfl (fun hg132 => ?_) (fun hg132 => ?_) | refine WL.cases (d := 132) rfl (fun hg132 => ?_) (fun hg132 => ?_)
  · -- t132 = T
    refine WL.gval rfl rfl (Y.move rfl) (by decide) ?_   -- t133 := move t5 [if 11=true]
    refine WL.gcall rfl rfl Tryd.func12 rfl rfl rfl (stLen_any g r (dropL (dropL l (shaD b)) (shaD b)) _ hT) (by decide) ?_; rintro v w20 ⟨rfl, hx20⟩; have hz20 := hx20.size; have hE := hE.thenExt hx20; have hK := hK.ext hx20; have hT := hT.ext hx20; have hB13 := hB13.ext hx20   -- t134 := call F12(t133) : 23 [if 11=true]
    refine WL.gval rfl rfl (Y.move rfl) (by decide) ?_   -- t135 := move t15 [if 11=true]
    refine WL.gval rfl rfl (Y.eql rfl rfl) (by decide) ?_   -- t136 := binOp eql 3 t134 t135 3 [if 11=true]
    refine WL.gval rfl rfl (Y.pick rfl rfl) (by decide) ?_   -- t137 := pick t132 t136 c(false) [if 8=true]
    refine WL.gval rfl rfl (Y.move rfl) (by decide) ?_   -- t138 := move t137 [if 8=true]
    refine WL.know (d := 138) (u := .bool true) rfl (by rw [decide_eq_true (by rw [hdd, dropL_same (at_none (not_t (by assumption)))])]) ?_
    refine WL.goff rfl rfl (by decide) ?_   -- t139 := move t14 [if 17=false]
    refine WL.goff rfl rfl (by decide) ?_   -- t140 := move t139 [if 17=false]
    refine WL.goffU rfl rfl (by decide) ?_   -- t141 := move t5 [if 19=true]
    refine WL.goffU rfl rfl (by decide) ?_   -- t142 := call F12(t141) : 23 [if 19=true]
    refine WL.goffU rfl rfl (by decide) ?_   -- t143 := move t15 [if 19=true]
    refine WL.goffU rfl rfl (by decide) ?_   -- t144 := binOp sub 3 t143 c(1:i64) 3 [if 19=true]
    refine WL.goffU rfl rfl (by decide) ?_   -- t145 := binOp eql 3 t142 t144 3 [if 19=true]
    refine WL.goff rfl rfl (by decide) ?_   -- t146 := pick t140 t145 c(false) [if 17=false]
    refine WL.goff rfl rfl (by decide) ?_   -- t147 := move t146 [if 17=false]
    refine WL.goffU rfl rfl (by decide) ?_   -- t148 := move t5 [if 26=true]
    refine WL.goffU rfl rfl (by decide) ?_   -- t149 := call F14(t148) : 23 [if 26=true]
    refine WL.goffU rfl rfl (by decide) ?_   -- t150 := move t16 [if 26=true]
    refine WL.goffU rfl rfl (by decide) ?_   -- t151 := move t17 [if 26=true]
    refine WL.goffU rfl rfl (by decide) ?_   -- t152 := call len(t151) : 26 [if 26=true]
    refine WL.goffU rfl rfl (by decide) ?_   -- t153 := binOp sub 3 t150 t152 3 [if 26=true]
    refine WL.goffU rfl rfl (by decide) ?_   -- t154 := binOp eql 3 t149 t153 3 [if 26=true]
    refine WL.goff rfl rfl (by decide) ?_   -- t155 := pick t147 t154 c(false) [if 17=false]
    refine WL.gval rfl rfl (Y.pick rfl rfl) (by decide) ?_   -- t156 := pick t138 c(true) t155 [if 8=true]
    refine WL.val (Y.pick rfl rfl) (by decide) ?_   -- t157 := pick t129 t156 c(false)
    refine WL.val (Y.assign rfl) (by decide) ?_   -- t4 := assign t157
    refine WL.nil ?_
    refine hK33 _ _ ?_; try clear hK33 K33
    refine CW.ret ⟨_, rfl, ?_⟩
    exact ⟨rfl, hE⟩
  · -- t132 = F
    refine WL.goff rfl rfl (by decide) ?_   -- t133 := move t5 [if 11=true]
    refine WL.goff rfl rfl (by decide) ?_   -- t134 := call F12(t133) : 23 [if 11=true]
    refine WL.goff rfl rfl (by decide) ?_   -- t135 := move t15 [if 11=true]
    refine WL.goff rfl rfl (by decide) ?_   -- t136 := binOp eql 3 t134 t135 3 [if 11=true]
    refine WL.gval rfl rfl (Y.pick rfl rfl) (by decide) ?_   -- t137 := pick t132 t136 c(false) [if 8=true]
    refine WL.gval rfl rfl (Y.move rfl) (by decide) ?_   -- t138 := move t137 [if 8=true]
    refine WL.gval rfl rfl (Y.move rfl) (by decide) ?_   -- t139 := move t14 [if 17=false]
    refine WL.gval rfl rfl (Y.move rfl) (by decide) ?_   -- t140 := move t139 [if 17=false]
    refine WL.know (d := 140) (u := .bool true) rfl (by rw [not_f (b := (at_ l (shaD b)).isSome) (by assumption)]) ?_
    refine WL.gval rfl rfl (Y.move rfl) (by decide) ?_   -- t141 := move t5 [if 19=true]
    refine WL.gcall rfl rfl Tryd.func12 rfl rfl rfl (stLen_any g r (dropL (dropL l (shaD b)) (shaD b)) _ hT) (by decide) ?_; rintro v w21 ⟨rfl, hx21⟩; have hz21 := hx21.size; have hE := hE.thenExt hx21; have hK := hK.ext hx21; have hT := hT.ext hx21; have hB13 := hB13.ext hx21   -- t142 := call F12(t141) : 23 [if 19=true]
    refine WL.gval rfl rfl (Y.move rfl) (by decide) ?_   -- t143 := move t15 [if 19=true]
    refine WL.gval rfl rfl (Y.sub rfl rfl ⟨by omega, by omega⟩) (by decide) ?_   -- t144 := binOp sub 3 t143 c(1:i64) 3 [if 19=true]
    refine WL.gval rfl rfl (Y.eql rfl rfl) (by decide) ?_   -- t145 := binOp eql 3 t142 t144 3 [if 19=true]
    refine WL.gval rfl rfl (Y.pick rfl rfl) (by decide) ?_   -- t146 := pick t140 t145 c(false) [if 17=false]
    refine WL.gval rfl rfl (Y.move rfl) (by decide) ?_   -- t147 := move t146 [if 17=false]
    refine WL.know (d := 147) (u := .bool true) rfl (by have h1 := dropL_some (l := l) (d := shaD b) (not_f (by assumption)); rw [decide_eq_true (by rw [hdd]; omega)]) ?_
    refine WL.gval rfl rfl (Y.move rfl) (by decide) ?_   -- t148 := move t5 [if 26=true]
    refine WL.gcall rfl rfl Tryd.func14 rfl rfl rfl (stSize_any g r (dropL (dropL l (shaD b)) (shaD b)) _ hT) (by decide) ?_; rintro v w22 ⟨rfl, hx22⟩; have hz22 := hx22.size; have hE := hE.thenExt hx22; have hK := hK.ext hx22; have hT := hT.ext hx22; have hB13 := hB13.ext hx22   -- t149 := call F14(t148) : 23 [if 26=true]
    refine WL.gval rfl rfl (Y.move rfl) (by decide) ?_   -- t150 := move t16 [if 26=true]
    refine WL.gval rfl rfl (Y.move rfl) (by decide) ?_   -- t151 := move t17 [if 26=true]
    refine WL.gval rfl rfl (Y.len_slice Tryd.underlying26 rfl) (by decide) ?_   -- t152 := call len(t151) : 26 [if 26=true]
    refine WL.gval rfl rfl (Y.sub rfl rfl ⟨by omega, by omega⟩) (by decide) ?_   -- t153 := binOp sub 3 t150 t152 3 [if 26=true]
    refine WL.gval rfl rfl (Y.eql rfl rfl) (by decide) ?_   -- t154 := binOp eql 3 t149 t153 3 [if 26=true]
    refine WL.gval rfl rfl (Y.pick rfl rfl) (by decide) ?_   -- t155 := pick t147 t154 c(false) [if 17=false]
    refine WL.gval rfl rfl (Y.pick rfl rfl) (by decide) ?_   -- t156 := pick t138 c(true) t155 [if 8=true]
    refine WL.val (Y.pick rfl rfl) (by decide) ?_   -- t157 := pick t129 t156 c(false)
    refine WL.val (Y.assign rfl) (by decide) ?_   -- t4 := assign t157
    refine WL.nil ?_
    refine hK33 _ _ ?_; try clear hK33 K33
    refine CW.ret ⟨_, rfl, ?_⟩
    have h1 := dropL_some (l := l) (d := shaD b) (not_f (by assumption))
    exact ⟨by rw [decide_eq_true (by rw [hdd]; omega)], hE⟩
end Go.Proofs.YtkbmlnkoejlgmaaDoor
