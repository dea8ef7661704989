/- Reading: wire.GetNum, wire.GetText, walked. No condition. -/
import Derived.Test.YtoncdfpohdchgaaDoorPk
import Derived.Test.YtoncdfpohdchgaaDoorSm
set_option linter.unusedSimpArgs false
set_option linter.unusedVariables false
namespace Go.Proofs.YtoncdfpohdchgaaDoor
open Go.RowKit Go.Fw Go.Pl
def gnumV (bs : List UInt8) (at_ : Nat) : Value := match gnum bs at_ with
  | .error e => .tuple #[.int .i64 0, .int .i64 0, .int .i64 e]
  | .ok (n, nx) => .tuple #[.int .i64 (n : Int), .int .i64 (nx : Int), .int .i64 0]
theorem gnumV_of {bs : List UInt8} {at_ i s : Nat} (h : gn 0 0 (bs.drop at_) = gn i s (bs.drop (at_ + i))) : gnumV bs at_ = match gn i s (bs.drop (at_ + i)) with
  | .error e => .tuple #[.int .i64 0, .int .i64 0, .int .i64 e]
  | .ok (n, k) => .tuple #[.int .i64 (n : Int), .int .i64 ((at_ + k : Nat) : Int), .int .i64 0] := by
  unfold gnumV gnum
  rw [h]
  cases gn i s (bs.drop (at_ + i)) <;> rfl
theorem drop_at {bs : List UInt8} {j : Nat} {b : UInt8} (h : bs[j]? = some b) : bs.drop j = b :: bs.drop (j + 1) := by
  obtain ⟨hj, rfl⟩ := List.getElem?_eq_some_iff.1 h
  exact List.drop_eq_getElem_cons hj

theorem getNum_any (bv : Value) (bs : List UInt8) (at_ : Nat) (w : World) (hb : By w bv bs) (hat : at_ ≤ bs.length) : Calls Tryd.prog 47 #[bv, .int .i64 (at_ : Int)] w (Ret fun v w' => v = gnumV bs at_ ∧ Ext w w') := by
  obtain ⟨A, m, c, rfl, hl, hmc, hcm, hA, hn⟩ := hb
  unfold maxLen at hcm
  refine calls_of_CW 59 [4, 5, 6] [(0, .slice A m c), (1, .int .i64 (at_ : Int))] Tryd.func47 rfl rfl rfl (by simp) args2 ?_
  refine CW.seq fun K1 hK1 => ?_
  refine CW.region ?_   -- region 0
  refine WL.val (Y.assign rfl) (by decide) ?_   -- t4 := assign c(0:i64)
  refine WL.val (Y.assign rfl) (by decide) ?_   -- t5 := assign c(0:i64)
  refine WL.val (Y.assign rfl) (by decide) ?_   -- t6 := assign c(0:i64)
  refine WL.nil ?_
  refine hK1 _ _ ?_; try clear hK1 K1
  refine CW.scope (X := Nat × Nat) 0 (fun x => [(0, .slice A m c), (1, .int .i64 (at_ : Int)), (7, .int .i64 (x.1 : Int)), (8, .int .i64 (x.2 : Int))]) (fun x w0 => x.1 ≤ 8 ∧ x.2 < 128 ^ x.1 ∧ gn 0 0 (bs.drop at_) = gn x.1 x.2 (bs.drop (at_ + x.1)) ∧ Ext w w0) (fun x => 9 - x.1) rfl ?_ ?_   -- scope
  · intro x w1 hl1
    obtain ⟨i, s⟩ := x
    dsimp only at hl1 ⊢
    obtain ⟨hi, hs, hg, hL1⟩ := hl1
    have hV := gnumV_of hg
    refine CW.seq fun K2 hK2 => ?_
    refine CW.seq fun K3 hK3 => ?_
    refine CW.region ?_   -- region 5
    refine WL.val (Y.move rfl) (by decide) ?_   -- t18 := move t7
    refine WL.val (Y.move rfl) (by decide) ?_   -- t19 := move t0
    refine WL.val (Y.len_slice Tryd.underlying33 rfl) (by decide) ?_   -- t20 := call len(t19) : 33
    refine WL.val (Y.move rfl) (by decide) ?_   -- t21 := move t1
    refine WL.val (Y.sub rfl rfl ⟨by omega, by omega⟩) (by decide) ?_   -- t22 := binOp sub 3 t20 t21 3
    refine WL.val (Y.geq rfl rfl) (by decide) ?_   -- t23 := binOp geq 3 t18 t22 3
    refine WL.nil ?_
    refine hK3 _ _ ?_; try clear hK3 K3
    first | refine CW.condD rfl (fun ht4 => ?_) (fun ht4 => ?_) | refine CW.condND rfl (fun ht4 => ?_) (fun ht4 => ?_) | refine CW.condN rfl (fun ht4 => ?_) (fun ht4 => ?_) | refine CW.cond rfl (fun ht4 => ?_) (fun ht4 => ?_)
    · -- then
      refine CW.seq fun K5 hK5 => ?_
      refine CW.region ?_   -- region 6
      refine WL.val (Y.assign rfl) (by decide) ?_   -- t4 := assign c(0:i64)
      refine WL.val (Y.assign rfl) (by decide) ?_   -- t5 := assign c(0:i64)
      refine WL.val (Y.assign rfl) (by decide) ?_   -- t6 := assign c(8:i64)
      refine WL.nil ?_
      refine hK5 _ _ ?_; try clear hK5 K5
      refine CW.ret ⟨_, rfl, ?_⟩
      exact ⟨by rw [hV, List.drop_of_length_le (by omega)]; rfl, hL1⟩
    -- else
    refine CW.skip ?_
    refine hK2 _ _ ?_; try clear hK2 K2
    refine CW.seq fun K6 hK6 => ?_
    refine CW.region ?_   -- region 7
    refine WL.val (Y.move rfl) (by decide) ?_   -- t24 := move t0
    refine WL.val (Y.move rfl) (by decide) ?_   -- t25 := move t1
    refine WL.val (Y.move rfl) (by decide) ?_   -- t26 := move t7
    refine WL.val (Y.add rfl rfl ⟨by omega, by omega⟩) (by decide) ?_   -- t27 := binOp add 3 t25 t26 3
    obtain ⟨b, hb⟩ : ∃ b, bs[at_ + i]? = some b := ⟨_, List.getElem?_eq_getElem (by omega)⟩
    obtain ⟨a, rfl, hM⟩ := hA (by omega)
    rw [drop_at hb, gn] at hV hg
    refine WL.val (Y.indexAddr Tryd.underlying33 rfl rfl sz0_uint8 (by omega) (by omega)) (by decide) ?_   -- t28 := indexAddr 33 t24 t27
    refine WL.val (Y.load1 Tryd.underlying5 rfl ((hM.ext hL1).byteAt hb (by omega)) rfl) (by decide) ?_   -- t29 := load 5 t28
    refine WL.val (Y.assign rfl) (by decide) ?_   -- t9 := assign t29
    refine WL.nil ?_
    refine hK6 _ _ ?_; try clear hK6 K6
    refine CW.seq fun K7 hK7 => ?_
    refine CW.seq_test 36 (128 ≤ b.toNat ∧ i + 1 = 9) ?_ ?_
    · refine CW.region ?_
      refine WL.val (Y.move rfl) (by decide) ?_   -- t30 := move t9
      refine WL.val (Y.geq rfl rfl) (by decide) ?_   -- t31 := binOp geq 5 t30 c(128:u8) 5
      refine WL.val (Y.move rfl) (by decide) ?_   -- t32 := move t31
      first | refine WL.casesD (d := 32) rfl (fun hg32 => ?_) (fun hg32 => ?_) | refine WL.casesND (d := 32) rfl (fun hg32 => ?_) (fun hg32 => ?_) | refine WL.cases (d := 32) rfl (fun hg32 => ?_) (fun hg32 => ?_)
      · -- t32 = T
        refine WL.gval rfl rfl (Y.move rfl) (by decide) ?_   -- t33 := move t7 [if 2=true]
        refine WL.gval rfl rfl (Y.add rfl rfl ⟨by omega, by omega⟩) (by decide) ?_   -- t34 := binOp add 3 t33 c(1:i64) 3 [if 2=true]
        refine WL.gval rfl rfl (Y.eql rfl rfl) (by decide) ?_   -- t35 := binOp eql 3 t34 c(9:i64) 3 [if 2=true]
        refine WL.val (Y.pick rfl rfl) (by decide) ?_   -- t36 := pick t32 t35 c(false)
        refine WL.nil ⟨⟨_, rfl, ?_⟩, rfl, (by repeat (first | exact Fr.le.refl | refine Fr.le.push rfl ?_))⟩
        first | (simp only [*, Int.natCast_inj, Bool.not_eq_true', decide_eq_false_iff_not, decide_eq_true_eq, not_true_eq_false, not_false_eq_true, true_and, false_and, and_true, and_false, false_or, or_false, true_or, or_true, iff_true, true_iff, iff_false, false_iff]; done) | (simp_all; done) | (refine congrArg Value.bool (Bool.eq_iff_iff.2 ?_); simp_all; done) | (simp_all; omega)
      · -- t32 = F
        refine WL.goff rfl rfl (by decide) ?_   -- t33 := move t7 [if 2=true]
        refine WL.goff rfl rfl (by decide) ?_   -- t34 := binOp add 3 t33 c(1:i64) 3 [if 2=true]
        refine WL.goff rfl rfl (by decide) ?_   -- t35 := binOp eql 3 t34 c(9:i64) 3 [if 2=true]
        refine WL.val (Y.pick rfl rfl) (by decide) ?_   -- t36 := pick t32 t35 c(false)
        refine WL.nil ⟨⟨_, rfl, ?_⟩, rfl, (by repeat (first | exact Fr.le.refl | refine Fr.le.push rfl ?_))⟩
        first | (simp only [*, Int.natCast_inj, Bool.not_eq_true', decide_eq_false_iff_not, decide_eq_true_eq, not_true_eq_false, not_false_eq_true, true_and, false_and, and_true, and_false, false_or, or_false, true_or, or_true, iff_true, true_iff, iff_false, false_iff]; done) | (simp_all; done) | (refine congrArg Value.bool (Bool.eq_iff_iff.2 ?_); simp_all; done) | (simp_all; omega)
    first | refine CW.condD rfl (fun ht8 => ?_) (fun ht8 => ?_) | refine CW.condND rfl (fun ht8 => ?_) (fun ht8 => ?_) | refine CW.condN rfl (fun ht8 => ?_) (fun ht8 => ?_) | refine CW.cond rfl (fun ht8 => ?_) (fun ht8 => ?_)
    · -- then
      refine CW.seq fun K9 hK9 => ?_
      refine CW.region ?_   -- region 9
      refine WL.val (Y.assign rfl) (by decide) ?_   -- t4 := assign c(0:i64)
      refine WL.val (Y.assign rfl) (by decide) ?_   -- t5 := assign c(0:i64)
      refine WL.val (Y.assign rfl) (by decide) ?_   -- t6 := assign c(9:i64)
      refine WL.nil ?_
      refine hK9 _ _ ?_; try clear hK9 K9
      refine CW.ret ⟨_, rfl, ?_⟩
      exact ⟨by rw [hV, if_pos (by assumption)], hL1⟩
    -- else
    refine CW.skip ?_
    refine hK7 _ _ ?_; try clear hK7 K7
    refine CW.seq fun K10 hK10 => ?_
    refine CW.seq_test 42 (b.toNat = 0 ∧ 0 < i) ?_ ?_
    · refine CW.region ?_
      refine WL.val (Y.move rfl) (by decide) ?_   -- t37 := move t9
      refine WL.val (Y.eql rfl rfl) (by decide) ?_   -- t38 := binOp eql 5 t37 c(0:u8) 5
      refine WL.val (Y.move rfl) (by decide) ?_   -- t39 := move t38
      first | refine WL.casesD (d := 39) rfl (fun hg39 => ?_) (fun hg39 => ?_) | refine WL.casesND (d := 39) rfl (fun hg39 => ?_) (fun hg39 => ?_) | refine WL.cases (d := 39) rfl (fun hg39 => ?_) (fun hg39 => ?_)
      · -- t39 = T
        refine WL.gval rfl rfl (Y.move rfl) (by decide) ?_   -- t40 := move t7 [if 2=true]
        refine WL.gval rfl rfl (Y.gtr rfl rfl) (by decide) ?_   -- t41 := binOp gtr 3 t40 c(0:i64) 3 [if 2=true]
        refine WL.val (Y.pick rfl rfl) (by decide) ?_   -- t42 := pick t39 t41 c(false)
        refine WL.nil ⟨⟨_, rfl, ?_⟩, rfl, (by repeat (first | exact Fr.le.refl | refine Fr.le.push rfl ?_))⟩
        first | (simp only [*, Int.natCast_inj, Bool.not_eq_true', decide_eq_false_iff_not, decide_eq_true_eq, not_true_eq_false, not_false_eq_true, true_and, false_and, and_true, and_false, false_or, or_false, true_or, or_true, iff_true, true_iff, iff_false, false_iff]; done) | (simp_all; done) | (refine congrArg Value.bool (Bool.eq_iff_iff.2 ?_); simp_all; done) | (simp_all; omega)
      · -- t39 = F
        refine WL.goff rfl rfl (by decide) ?_   -- t40 := move t7 [if 2=true]
        refine WL.goff rfl rfl (by decide) ?_   -- t41 := binOp gtr 3 t40 c(0:i64) 3 [if 2=true]
        refine WL.val (Y.pick rfl rfl) (by decide) ?_   -- t42 := pick t39 t41 c(false)
        refine WL.nil ⟨⟨_, rfl, ?_⟩, rfl, (by repeat (first | exact Fr.le.refl | refine Fr.le.push rfl ?_))⟩
        first | (simp only [*, Int.natCast_inj, Bool.not_eq_true', decide_eq_false_iff_not, decide_eq_true_eq, not_true_eq_false, not_false_eq_true, true_and, false_and, and_true, and_false, false_or, or_false, true_or, or_true, iff_true, true_iff, iff_false, false_iff]; done) | (simp_all; done) | (refine congrArg Value.bool (Bool.eq_iff_iff.2 ?_); simp_all; done) | (simp_all; omega)
    first | refine CW.condD rfl (fun ht11 => ?_) (fun ht11 => ?_) | refine CW.condND rfl (fun ht11 => ?_) (fun ht11 => ?_) | refine CW.condN rfl (fun ht11 => ?_) (fun ht11 => ?_) | refine CW.cond rfl (fun ht11 => ?_) (fun ht11 => ?_)
    · -- then
      refine CW.seq fun K12 hK12 => ?_
      refine CW.region ?_   -- region 11
      refine WL.val (Y.assign rfl) (by decide) ?_   -- t4 := assign c(0:i64)
      refine WL.val (Y.assign rfl) (by decide) ?_   -- t5 := assign c(0:i64)
      refine WL.val (Y.assign rfl) (by decide) ?_   -- t6 := assign c(7:i64)
      refine WL.nil ?_
      refine hK12 _ _ ?_; try clear hK12 K12
      refine CW.ret ⟨_, rfl, ?_⟩
      exact ⟨by rw [hV, if_neg (by assumption), if_pos (by assumption)], hL1⟩
    -- else
    refine CW.skip ?_
    refine hK10 _ _ ?_; try clear hK10 K10
    refine CW.seq fun K13 hK13 => ?_
    refine CW.region ?_   -- region 12
    refine WL.val (Y.move rfl) (by decide) ?_   -- t43 := move t8
    refine WL.val (Y.move rfl) (by decide) ?_   -- t44 := move t9
    refine WL.val (Y.and_k rfl rfl (and127 b)) (by decide) ?_   -- t45 := binOp and 5 t44 c(127:u8) 5
    refine WL.val (Y.conv_nat Tryd.underlying5 Tryd.underlying3 rfl (by omega)) (by decide) ?_   -- t46 := convert 5 3 t45
    refine WL.val (Y.move rfl) (by decide) ?_   -- t47 := move t7
    refine WL.val (Y.mul rfl rfl ⟨by omega, by omega⟩) (by decide) ?_   -- t48 := binOp mul 3 c(7:i64) t47 3
    refine WL.val (Y.shl rfl rfl (by omega) (shl_at (by omega) hi)) (by decide) ?_   -- t49 := binOp shl 3 t46 t48 3
    refine WL.val (Y.or_k rfl rfl (or_at hs (by omega) hi)) (by decide) ?_   -- t50 := binOp or 3 t43 t49 3
    refine WL.val (Y.assign rfl) (by decide) ?_   -- t8 := assign t50
    refine WL.nil ?_
    refine hK13 _ _ ?_; try clear hK13 K13
    refine CW.seq fun K14 hK14 => ?_
    refine CW.region ?_   -- region 13
    refine WL.val (Y.move rfl) (by decide) ?_   -- t51 := move t7
    refine WL.val (Y.add rfl rfl ⟨by omega, by omega⟩) (by decide) ?_   -- t52 := binOp add 3 t51 c(1:i64) 3
    refine WL.val (Y.assign rfl) (by decide) ?_   -- t7 := assign t52
    refine WL.nil ?_
    refine hK14 _ _ ?_; try clear hK14 K14
    refine CW.seq fun K15 hK15 => ?_
    refine CW.seq fun K16 hK16 => ?_
    refine CW.region ?_   -- region 14
    refine WL.val (Y.move rfl) (by decide) ?_   -- t53 := move t9
    refine WL.val (Y.geq rfl rfl) (by decide) ?_   -- t54 := binOp geq 5 t53 c(128:u8) 5
    refine WL.nil ?_
    refine hK16 _ _ ?_; try clear hK16 K16
    first | refine CW.condD rfl (fun ht17 => ?_) (fun ht17 => ?_) | refine CW.condND rfl (fun ht17 => ?_) (fun ht17 => ?_) | refine CW.condN rfl (fun ht17 => ?_) (fun ht17 => ?_) | refine CW.cond rfl (fun ht17 => ?_) (fun ht17 => ?_)
    · -- then
      refine CW.goto ?_   -- goto 0
      refine ⟨rfl, (i + 1, s + b.toNat % 128 * 128 ^ i), by show 9 - (i + 1) < 9 - i; omega, (by repeat (first | exact Fr.le.nil | refine Fr.le.cons rfl ?_)), by show i + 1 ≤ 8; omega, (low_high hs (by omega) hi).1, ?_, hL1⟩
      show gn 0 0 _ = gn (i + 1) (s + b.toNat % 128 * 128 ^ i) (bs.drop (at_ + (i + 1)))
      rw [hg, if_neg (by assumption), if_neg (by assumption), if_pos (by omega)]
      rfl
    -- else
    refine CW.skip ?_
    refine hK15 _ _ ?_; try clear hK15 K15
    refine CW.seq fun K18 hK18 => ?_
    refine CW.region ?_   -- region 15
    refine WL.val (Y.move rfl) (by decide) ?_   -- t55 := move t8
    refine WL.val (Y.move rfl) (by decide) ?_   -- t56 := move t1
    refine WL.val (Y.move rfl) (by decide) ?_   -- t57 := move t7
    refine WL.val (Y.add rfl rfl ⟨by omega, by omega⟩) (by decide) ?_   -- t58 := binOp add 3 t56 t57 3
    refine WL.val (Y.assign rfl) (by decide) ?_   -- t4 := assign t55
    refine WL.val (Y.assign rfl) (by decide) ?_   -- t5 := assign t58
    refine WL.val (Y.assign rfl) (by decide) ?_   -- t6 := assign c(0:i64)
    refine WL.nil ?_
    refine hK18 _ _ ?_; try clear hK18 K18
    refine CW.ret ⟨_, rfl, ?_⟩
    exact ⟨by rw [hV, if_neg (by assumption), if_neg (by assumption), if_neg (by omega)]; rfl, hL1⟩
  · intro hT
    refine CW.seq fun K19 hK19 => ?_
    refine CW.seq_test 17 ((at_ : Int) < 0 ∨ (m : Int) < at_) ?_ ?_
    · refine CW.region ?_
      refine WL.val (Y.move rfl) (by decide) ?_   -- t10 := move t1
      refine WL.val (Y.lss rfl rfl) (by decide) ?_   -- t11 := binOp lss 3 t10 c(0:i64) 3
      refine WL.val (Y.move rfl) (by decide) ?_   -- t12 := move t11
      first | refine WL.casesD (d := 12) rfl (fun hg12 => ?_) (fun hg12 => ?_) | refine WL.casesND (d := 12) rfl (fun hg12 => ?_) (fun hg12 => ?_) | refine WL.cases (d := 12) rfl (fun hg12 => ?_) (fun hg12 => ?_)
      · -- t12 = T
        refine WL.goff rfl rfl (by decide) ?_   -- t13 := move t1 [if 2=false]
        refine WL.goff rfl rfl (by decide) ?_   -- t14 := move t0 [if 2=false]
        refine WL.goff rfl rfl (by decide) ?_   -- t15 := call len(t14) : 33 [if 2=false]
        refine WL.goff rfl rfl (by decide) ?_   -- t16 := binOp gtr 3 t13 t15 3 [if 2=false]
        refine WL.val (Y.pick rfl rfl) (by decide) ?_   -- t17 := pick t12 c(true) t16
        refine WL.nil ⟨⟨_, rfl, ?_⟩, rfl, (by repeat (first | exact Fr.le.refl | refine Fr.le.push rfl ?_))⟩
        first | (simp only [*, Int.natCast_inj, Bool.not_eq_true', decide_eq_false_iff_not, decide_eq_true_eq, not_true_eq_false, not_false_eq_true, true_and, false_and, and_true, and_false, false_or, or_false, true_or, or_true, iff_true, true_iff, iff_false, false_iff]; done) | (simp_all; done) | (refine congrArg Value.bool (Bool.eq_iff_iff.2 ?_); simp_all; done) | (simp_all; omega)
      · -- t12 = F
        refine WL.gval rfl rfl (Y.move rfl) (by decide) ?_   -- t13 := move t1 [if 2=false]
        refine WL.gval rfl rfl (Y.move rfl) (by decide) ?_   -- t14 := move t0 [if 2=false]
        refine WL.gval rfl rfl (Y.len_slice Tryd.underlying33 rfl) (by decide) ?_   -- t15 := call len(t14) : 33 [if 2=false]
        refine WL.gval rfl rfl (Y.gtr rfl rfl) (by decide) ?_   -- t16 := binOp gtr 3 t13 t15 3 [if 2=false]
        refine WL.val (Y.pick rfl rfl) (by decide) ?_   -- t17 := pick t12 c(true) t16
        refine WL.nil ⟨⟨_, rfl, ?_⟩, rfl, (by repeat (first | exact Fr.le.refl | refine Fr.le.push rfl ?_))⟩
        first | (simp only [*, Int.natCast_inj, Bool.not_eq_true', decide_eq_false_iff_not, decide_eq_true_eq, not_true_eq_false, not_false_eq_true, true_and, false_and, and_true, and_false, false_or, or_false, true_or, or_true, iff_true, true_iff, iff_false, false_iff]; done) | (simp_all; done) | (refine congrArg Value.bool (Bool.eq_iff_iff.2 ?_); simp_all; done) | (simp_all; omega)
    first | refine CW.condD rfl (fun ht20 => ?_) (fun ht20 => ?_) | refine CW.condND rfl (fun ht20 => ?_) (fun ht20 => ?_) | refine CW.condN rfl (fun ht20 => ?_) (fun ht20 => ?_) | refine CW.cond rfl (fun ht20 => ?_) (fun ht20 => ?_)
    · -- then
      refine CW.seq fun K21 hK21 => ?_
      refine CW.region ?_   -- region 2
      refine WL.val (Y.assign rfl) (by decide) ?_   -- t4 := assign c(0:i64)
      refine WL.val (Y.assign rfl) (by decide) ?_   -- t5 := assign c(0:i64)
      refine WL.val (Y.assign rfl) (by decide) ?_   -- t6 := assign c(1:i64)
      refine WL.nil ?_
      refine hK21 _ _ ?_; try clear hK21 K21
      refine CW.ret ⟨_, rfl, ?_⟩
      exfalso; omega
    -- else
    refine CW.skip ?_
    refine hK19 _ _ ?_; try clear hK19 K19
    refine CW.seq fun K22 hK22 => ?_
    refine CW.region ?_   -- region 3
    refine WL.val (Y.assign rfl) (by decide) ?_   -- t7 := assign c(0:i64)
    refine WL.nil ?_
    refine hK22 _ _ ?_; try clear hK22 K22
    refine CW.seq fun K23 hK23 => ?_
    refine CW.region ?_   -- region 4
    refine WL.val (Y.assign rfl) (by decide) ?_   -- t8 := assign c(0:i64)
    refine WL.nil ?_
    refine hK23 _ _ ?_; try clear hK23 K23
    exact hT _ _ (0, 0) (by repeat (first | exact Fr.le.nil | refine Fr.le.cons rfl ?_)) ⟨Nat.zero_le _, (by show 0 < 128 ^ 0; decide), rfl, Chg.refl⟩
theorem gnumV_t (bs : List UInt8) (at_ : Nat) : gnumV bs at_ = .tuple #[.int .i64 (gN bs at_), .int .i64 (gX bs at_), .int .i64 (gE bs at_)] := by
  unfold gnumV gN gX gE
  cases gnum bs at_ <;> rfl
theorem getNum_t (bv : Value) (bs : List UInt8) (at_ : Nat) (w : World) (hb : By w bv bs) (hat : at_ ≤ bs.length) : Calls Tryd.prog 47 #[bv, .int .i64 (at_ : Int)] w (Ret fun v w' => v = .tuple #[.int .i64 (gN bs at_), .int .i64 (gX bs at_), .int .i64 (gE bs at_)] ∧ Ext w w') := by
  rw [← gnumV_t]; exact getNum_any bv bs at_ w hb hat

theorem getText_any (bv : Value) (bs_ : List UInt8) (at_ : Nat) (w : World) (hb : By w bv bs_) (hat : at_ ≤ bs_.length) : Calls Tryd.prog 50 #[bv, .int .i64 (at_ : Int)] w (Ret fun v w' => v = .tuple #[.string (bs (gtT bs_ at_)), .int .i64 (gtX bs_ at_), .int .i64 (gtE bs_ at_)] ∧ Ext w w') := by
  have hb0 := hb
  obtain ⟨A, m, c, rfl, hl, hmc, hcm, hA, hn⟩ := hb
  unfold maxLen at hcm
  refine calls_of_CW 39 [4, 5, 6] [(0, .slice A m c), (1, .int .i64 (at_ : Int))] Tryd.func50 rfl rfl rfl (by simp) args2 ?_
  refine CW.seq fun K1 hK1 => ?_
  refine CW.region ?_   -- region 0
  refine WL.val (Y.assign rfl) (by decide) ?_   -- t4 := assign c(STR)
  refine WL.val (Y.assign rfl) (by decide) ?_   -- t5 := assign c(0:i64)
  refine WL.val (Y.assign rfl) (by decide) ?_   -- t6 := assign c(0:i64)
  refine WL.nil ?_
  refine hK1 _ _ ?_; try clear hK1 K1
  refine CW.seq fun K2 hK2 => ?_
  refine CW.region ?_   -- region 1
  refine WL.val (Y.move rfl) (by decide) ?_   -- t9 := move t0
  refine WL.val (Y.move rfl) (by decide) ?_   -- t10 := move t1
  refine WL.call Tryd.func47 rfl rfl rfl ((getNum_t _ bs_ at_ _ hb0 hat)) (by simp) ?_; rintro v w1 ⟨rfl, hx1⟩   -- t11 := call F47(t9, t10) : 33,3
  refine WL.val (Y.move rfl) (by decide) ?_   -- t8 := move t11
  refine WL.val (Y.extract rfl rfl) (by decide) ?_   -- t12 := extract t8 0
  refine WL.val (Y.extract rfl rfl) (by decide) ?_   -- t13 := extract t8 1
  refine WL.val (Y.extract rfl rfl) (by decide) ?_   -- t14 := extract t8 2
  refine WL.val (Y.assign rfl) (by decide) ?_   -- t7 := assign t12
  refine WL.val (Y.assign rfl) (by decide) ?_   -- t5 := assign t13
  refine WL.val (Y.assign rfl) (by decide) ?_   -- t6 := assign t14
  refine WL.nil ?_
  refine hK2 _ _ ?_; try clear hK2 K2
  refine CW.seq fun K3 hK3 => ?_
  refine CW.block ?_   -- block 0
  refine CW.seq fun K4 hK4 => ?_
  refine CW.region ?_   -- region 2
  refine WL.val (Y.move rfl) (by decide) ?_   -- t16 := move t6
  refine WL.val (Y.neq rfl rfl) (by decide) ?_   -- t17 := binOp neq 23 t16 c(0:i64) 23
  refine WL.val (Y.assign rfl) (by decide) ?_   -- t15 := assign t17
  refine WL.nil ?_
  refine hK4 _ _ ?_; try clear hK4 K4
  first | refine CW.condD rfl (fun ht5 => ?_) (fun ht5 => ?_) | refine CW.condND rfl (fun ht5 => ?_) (fun ht5 => ?_) | refine CW.condN rfl (fun ht5 => ?_) (fun ht5 => ?_) | refine CW.cond rfl (fun ht5 => ?_) (fun ht5 => ?_)
  · -- then
    refine CW.seq fun K6 hK6 => ?_
    refine CW.region ?_   -- region 3
    refine WL.val (Y.move rfl) (by decide) ?_   -- t18 := move t6
    refine WL.val (Y.assign rfl) (by decide) ?_   -- t4 := assign c(STR)
    refine WL.val (Y.assign rfl) (by decide) ?_   -- t5 := assign c(0:i64)
    refine WL.val (Y.assign rfl) (by decide) ?_   -- t6 := assign t18
    refine WL.nil ?_
    refine hK6 _ _ ?_; try clear hK6 K6
    refine CW.ret ⟨_, rfl, ?_⟩
    have h2 := gt_of_error (gtext_bad (gE_ne ht5).1)
    exact ⟨by rw [h2.1, h2.2.1, h2.2.2]; rfl, hx1⟩
  -- else
  refine CW.seq fun K7 hK7 => ?_
  obtain ⟨n, nx, hg, hN, hX⟩ := gE_zero (Decidable.not_not.1 ht5)
  rw [hN, hX]
  have hlen := gnum_len hg hat
  refine CW.region ?_   -- region 4
  refine WL.val (Y.move rfl) (by decide) ?_   -- t20 := move t7
  refine WL.val (Y.gtr rfl rfl) (by decide) ?_   -- t21 := binOp gtr 3 t20 c(131072:i64) 3
  refine WL.val (Y.assign rfl) (by decide) ?_   -- t19 := assign t21
  refine WL.nil ?_
  refine hK7 _ _ ?_; try clear hK7 K7
  first | refine CW.condD rfl (fun ht8 => ?_) (fun ht8 => ?_) | refine CW.condND rfl (fun ht8 => ?_) (fun ht8 => ?_) | refine CW.condN rfl (fun ht8 => ?_) (fun ht8 => ?_) | refine CW.cond rfl (fun ht8 => ?_) (fun ht8 => ?_)
  · -- then
    refine CW.seq fun K9 hK9 => ?_
    refine CW.region ?_   -- region 5
    refine WL.val (Y.assign rfl) (by decide) ?_   -- t4 := assign c(STR)
    refine WL.val (Y.assign rfl) (by decide) ?_   -- t5 := assign c(0:i64)
    refine WL.val (Y.assign rfl) (by decide) ?_   -- t6 := assign c(3:i64)
    refine WL.nil ?_
    refine hK9 _ _ ?_; try clear hK9 K9
    refine CW.ret ⟨_, rfl, ?_⟩
    have h2 := gt_of_error (bs := bs_) (at_ := at_) (e := 3) (by rw [gtext_num hg, if_pos (by omega)])
    exact ⟨by rw [h2.1, h2.2.1, h2.2.2]; rfl, hx1⟩
  -- else
  refine CW.seq fun K10 hK10 => ?_
  refine CW.region ?_   -- region 6
  refine WL.val (Y.move rfl) (by decide) ?_   -- t23 := move t7
  refine WL.val (Y.move rfl) (by decide) ?_   -- t24 := move t0
  refine WL.val (Y.len_slice Tryd.underlying33 rfl) (by decide) ?_   -- t25 := call len(t24) : 33
  refine WL.val (Y.move rfl) (by decide) ?_   -- t26 := move t5
  refine WL.val (Y.sub rfl rfl ⟨by omega, by omega⟩) (by decide) ?_   -- t27 := binOp sub 3 t25 t26 3
  refine WL.val (Y.gtr rfl rfl) (by decide) ?_   -- t28 := binOp gtr 3 t23 t27 3
  refine WL.val (Y.assign rfl) (by decide) ?_   -- t22 := assign t28
  refine WL.nil ?_
  refine hK10 _ _ ?_; try clear hK10 K10
  first | refine CW.condD rfl (fun ht11 => ?_) (fun ht11 => ?_) | refine CW.condND rfl (fun ht11 => ?_) (fun ht11 => ?_) | refine CW.condN rfl (fun ht11 => ?_) (fun ht11 => ?_) | refine CW.cond rfl (fun ht11 => ?_) (fun ht11 => ?_)
  · -- then
    refine CW.seq fun K12 hK12 => ?_
    refine CW.region ?_   -- region 7
    refine WL.val (Y.assign rfl) (by decide) ?_   -- t4 := assign c(STR)
    refine WL.val (Y.assign rfl) (by decide) ?_   -- t5 := assign c(0:i64)
    refine WL.val (Y.assign rfl) (by decide) ?_   -- t6 := assign c(8:i64)
    refine WL.nil ?_
    refine hK12 _ _ ?_; try clear hK12 K12
    refine CW.ret ⟨_, rfl, ?_⟩
    have h2 := gt_of_error (bs := bs_) (at_ := at_) (e := 8) (by rw [gtext_num hg, if_neg (by omega), if_pos (by omega)])
    exact ⟨by rw [h2.1, h2.2.1, h2.2.2]; rfl, hx1⟩
  -- else
  refine CW.skip ?_
  refine hK3 _ _ ?_; try clear hK3 K3
  refine CW.seq fun K13 hK13 => ?_
  refine CW.region ?_   -- region 8
  refine WL.val (Y.move rfl) (by decide) ?_   -- t29 := move t0
  refine WL.val (Y.move rfl) (by decide) ?_   -- t30 := move t5
  refine WL.val (Y.move rfl) (by decide) ?_   -- t31 := move t5
  refine WL.val (Y.move rfl) (by decide) ?_   -- t32 := move t7
  refine WL.val (Y.add rfl rfl ⟨by omega, by omega⟩) (by decide) ?_   -- t33 := binOp add 3 t31 t32 3
  obtain ⟨a, rfl, hM⟩ := hA (by omega)
  refine WL.val (Y.slice_sl (i := nx) (j := nx + n) Tryd.underlying33 rfl rfl rfl sz0_uint8 (by omega) (by omega)) (by decide) ?_   -- t34 := slice 33 t29 t30 t33 none
  refine WL.val (Y.bytes_string Tryd.underlying33 Tryd.underlying5 Tryd.underlying9 rfl (show ((bs_.drop nx).take n).length = _ by rw [List.length_take, List.length_drop]; omega) (fun h0 => ⟨_, rfl, by have := By.slMem (hM.ext hx1) hl hmc (i := nx) (j := nx + n) (by omega) (by omega); rwa [Nat.add_sub_cancel_left] at this⟩) (fun h => by cases h)) (by decide) ?_   -- t35 := convert 33 9 t34
  refine WL.val (Y.move rfl) (by decide) ?_   -- t36 := move t5
  refine WL.val (Y.move rfl) (by decide) ?_   -- t37 := move t7
  refine WL.val (Y.add rfl rfl ⟨by omega, by omega⟩) (by decide) ?_   -- t38 := binOp add 3 t36 t37 3
  refine WL.val (Y.assign rfl) (by decide) ?_   -- t4 := assign t35
  refine WL.val (Y.assign rfl) (by decide) ?_   -- t5 := assign t38
  refine WL.val (Y.assign rfl) (by decide) ?_   -- t6 := assign c(0:i64)
  refine WL.nil ?_
  refine hK13 _ _ ?_; try clear hK13 K13
  refine CW.ret ⟨_, rfl, ?_⟩
  have h2 := gt_of_ok (bs := bs_) (at_ := at_) (t := (bs_.drop nx).take n) (nx := nx + n) (by rw [gtext_num hg, if_neg (by omega), if_neg (by omega)])
  exact ⟨by rw [h2.1, h2.2.1, h2.2.2]; rfl, hx1⟩
end Go.Proofs.YtoncdfpohdchgaaDoor
