/- SHA-256's small functions, walked: RotateLeft32, right, the reference's turn, digit, word. No condition. -/
import Derived.Test.YtkbmlnkoejlgmaaDoorSb
set_option linter.unusedSimpArgs false
set_option linter.unusedVariables false
namespace Go.Proofs.YtkbmlnkoejlgmaaDoor
open Go.RowKit Go.Fw Go.Pl
theorem rot_a : ∀ n : Nat, n < 32 → 1 ≤ n → IntKind.u64.wrap ((BitVec.ofInt IntKind.u64.bits (IntKind.u64.wrap (IntKind.i64.wrap (0 - (n : Int)))) &&& BitVec.ofInt IntKind.u64.bits 31).toNat : Int) = ((32 - n : Nat) : Int) := by decide +kernel
theorem rot_b : ∀ n : Nat, n < 32 → 1 ≤ n → IntKind.u64.wrap (32 - ((32 - n : Nat) : Int)) = (n : Int) := by decide +kernel
theorem rot_c : ∀ n : Nat, n < 32 → 1 ≤ n → IntKind.u64.wrap (32 - (n : Int)) = ((32 - n : Nat) : Int) := by decide +kernel
theorem dig_a : ∀ n : Nat, n < 256 → 48 ≤ n → n ≤ 57 → IntKind.i64.wrap (IntKind.u8.wrap ((n : Int) - 48)) = ((n - 48 : Nat) : Int) := by decide +kernel
theorem dig_b : ∀ n : Nat, n < 256 → 97 ≤ n → n ≤ 102 → IntKind.i64.wrap (IntKind.u8.wrap ((n : Int) - 97)) = ((n - 97 : Nat) : Int) := by decide +kernel

theorem rotl_any (x : UInt32) (n : Nat) (w : World) (h1 : 1 ≤ n) (h2 : n < 32) : Calls Tryd.prog 50 #[wd x, .int .i64 (IntKind.i64.wrap (0 - (n : Int)))] w (Ret fun v w' => v = wd (rotr x n) ∧ Ext w w') := by
  refine calls_of_CW 17 [4] [(0, wd x), (1, .int .i64 (IntKind.i64.wrap (0 - (n : Int))))] Tryd.func50 rfl rfl rfl (by simp) args2 ?_
  have hE : Ext w w := Chg.refl
  refine CW.seq fun K1 hK1 => ?_
  refine CW.region ?_   -- region 0
  refine WL.val (Y.assign rfl) (by decide) ?_   -- t4 := assign c(0:u32)
  refine WL.nil ?_
  refine hK1 _ _ ?_; try clear hK1 K1
  refine CW.seq fun K2 hK2 => ?_
  refine CW.region ?_   -- region 1
  refine WL.val (Y.move rfl) (by decide) ?_   -- t6 := move t1
  refine WL.val (Y.conv_int Tryd.underlying3 Tryd.underlying81 rfl) (by decide) ?_   -- t7 := convert 3 81 t6
  refine WL.val (Y.and_k rfl rfl (rot_a n h2 h1)) (by decide) ?_   -- t8 := binOp and 81 t7 c(31:u64) 81
  refine WL.val (Y.assign rfl) (by decide) ?_   -- t5 := assign t8
  refine WL.nil ?_
  refine hK2 _ _ ?_; try clear hK2 K2
  refine CW.seq fun K3 hK3 => ?_
  refine CW.region ?_   -- region 2
  refine WL.val (Y.move rfl) (by decide) ?_   -- t9 := move t0
  refine WL.val (Y.move rfl) (by decide) ?_   -- t10 := move t5
  refine WL.val (Y.shlW (32 - n) rfl rfl rfl (by omega)) (by decide) ?_   -- t11 := binOp shl 72 t9 t10 81
  refine WL.val (Y.move rfl) (by decide) ?_   -- t12 := move t0
  refine WL.val (Y.move rfl) (by decide) ?_   -- t13 := move t5
  refine WL.val (Y.sub_k rfl rfl) (by decide) ?_   -- t14 := binOp sub 81 c(32:u64) t13 81
  refine WL.val (Y.shrW n rfl rfl (rot_b n h2 h1) (by omega)) (by decide) ?_   -- t15 := binOp shr 72 t12 t14 81
  refine WL.val (Y.orW rfl rfl) (by decide) ?_   -- t16 := binOp or 72 t11 t15 72
  refine WL.val (Y.assign rfl) (by decide) ?_   -- t4 := assign t16
  refine WL.nil ?_
  refine hK3 _ _ ?_; try clear hK3 K3
  refine CW.ret ⟨_, rfl, ?_⟩
  exact ⟨by rw [rotr, UInt32.or_comm], hE⟩
theorem rightW_any (x : UInt32) (n : Nat) (w : World) (h1 : 1 ≤ n) (h2 : n < 32) : Calls Tryd.prog 45 #[wd x, .int .i64 (n : Int)] w (Ret fun v w' => v = wd (rotr x n) ∧ Ext w w') := by
  refine calls_of_CW 9 [4] [(0, wd x), (1, .int .i64 (n : Int))] Tryd.func45 rfl rfl rfl (by simp) args2 ?_
  have hE : Ext w w := Chg.refl
  refine CW.seq fun K1 hK1 => ?_
  refine CW.region ?_   -- region 0
  refine WL.val (Y.assign rfl) (by decide) ?_   -- t4 := assign c(0:u32)
  refine WL.nil ?_
  refine hK1 _ _ ?_; try clear hK1 K1
  refine CW.seq fun K2 hK2 => ?_
  refine CW.region ?_   -- region 1
  refine WL.val (Y.move rfl) (by decide) ?_   -- t5 := move t0
  refine WL.val (Y.move rfl) (by decide) ?_   -- t6 := move t1
  refine WL.val (Y.neg rfl) (by decide) ?_   -- t7 := unOp neg 3 t6
  refine WL.call Tryd.func50 rfl rfl rfl (rotl_any x n _ h1 h2) (by simp) ?_; rintro v w1 ⟨rfl, hx1⟩; have hz1 := hx1.size; have hE := hE.thenExt hx1   -- t8 := call F50(t5, t7) : 72,3
  refine WL.val (Y.assign rfl) (by decide) ?_   -- t4 := assign t8
  refine WL.nil ?_
  refine hK2 _ _ ?_; try clear hK2 K2
  refine CW.ret ⟨_, rfl, ?_⟩
  exact ⟨rfl, hE⟩
theorem turn_any (x : UInt32) (n : Nat) (w : World) (h1 : 1 ≤ n) (h2 : n < 32) : Calls Tryd.prog 49 #[wd x, .int .u64 (n : Int)] w (Ret fun v w' => v = wd (rotr x n) ∧ Ext w w') := by
  refine calls_of_CW 13 [4] [(0, wd x), (1, .int .u64 (n : Int))] Tryd.func49 rfl rfl rfl (by simp) args2 ?_
  have hE : Ext w w := Chg.refl
  refine CW.seq fun K1 hK1 => ?_
  refine CW.region ?_   -- region 0
  refine WL.val (Y.assign rfl) (by decide) ?_   -- t4 := assign c(0:u32)
  refine WL.nil ?_
  refine hK1 _ _ ?_; try clear hK1 K1
  refine CW.seq fun K2 hK2 => ?_
  refine CW.region ?_   -- region 1
  refine WL.val (Y.move rfl) (by decide) ?_   -- t5 := move t0
  refine WL.val (Y.move rfl) (by decide) ?_   -- t6 := move t1
  refine WL.val (Y.shrW n rfl rfl rfl (by omega)) (by decide) ?_   -- t7 := binOp shr 72 t5 t6 81
  refine WL.val (Y.move rfl) (by decide) ?_   -- t8 := move t0
  refine WL.val (Y.move rfl) (by decide) ?_   -- t9 := move t1
  refine WL.val (Y.sub_k rfl rfl) (by decide) ?_   -- t10 := binOp sub 81 c(32:u64) t9 81
  refine WL.val (Y.shlW (32 - n) rfl rfl (rot_c n h2 h1) (by omega)) (by decide) ?_   -- t11 := binOp shl 72 t8 t10 81
  refine WL.val (Y.orW rfl rfl) (by decide) ?_   -- t12 := binOp or 72 t7 t11 72
  refine WL.val (Y.assign rfl) (by decide) ?_   -- t4 := assign t12
  refine WL.nil ?_
  refine hK2 _ _ ?_; try clear hK2 K2
  refine CW.ret ⟨_, rfl, ?_⟩
  exact ⟨rfl, hE⟩
theorem digit_any (c : UInt8) (w : World) : Calls Tryd.prog 48 #[.int .u8 (c.toNat : Int)] w (Ret fun v w' => v = .int .i64 (digN c : Int) ∧ Ext w w') := by
  have hc := c.toNat_lt
  refine calls_of_CW 22 [2] [(0, .int .u8 (c.toNat : Int))] Tryd.func48 rfl rfl rfl (by simp) args1 ?_
  have hE : Ext w w := Chg.refl
  refine CW.seq fun K1 hK1 => ?_
  refine CW.region ?_   -- region 0
  refine WL.val (Y.assign rfl) (by decide) ?_   -- t2 := assign c(0:i64)
  refine WL.nil ?_
  refine hK1 _ _ ?_; try clear hK1 K1
  refine CW.seq fun K2 hK2 => ?_
  refine CW.seq_test 8 (48 ≤ c.toNat ∧ c.toNat ≤ 57) ?_ ?_
  · refine CW.region ?_
    refine WL.val (Y.move rfl) (by decide) ?_   -- t3 := move t0
    refine WL.val (Y.geq rfl rfl) (by decide) ?_   -- t4 := binOp geq 5 t3 c(48:u8) 5
    refine WL.val (Y.move rfl) (by decide) ?_   -- t5 := move t4
    first | refine WL.casesD (d := 5) rfl (fun hg5 => ?_) (fun hg5 => ?_) | refine WL.casesND (d := 5) rfl (fun hg5 => ?_) (fun hg5 => ?_) | refine WL.cases (d := 5) rfl (fun hg5 => ?_) (fun hg5 => ?_)
    · -- t5 = T
      refine WL.gval rfl rfl (Y.move rfl) (by decide) ?_   -- t6 := move t0 [if 2=true]
      refine WL.gval rfl rfl (Y.leq rfl rfl) (by decide) ?_   -- t7 := binOp leq 5 t6 c(57:u8) 5 [if 2=true]
      refine WL.val (Y.pick rfl rfl) (by decide) ?_   -- t8 := pick t5 t7 c(false)
      refine WL.nil ⟨⟨_, rfl, ?_⟩, rfl, (by repeat (first | exact Fr.le.refl | refine Fr.le.push rfl ?_))⟩
      first | (simp only [*, Bool.not_eq_true', decide_eq_false_iff_not, decide_eq_true_eq, not_true_eq_false, not_false_eq_true, true_and, false_and, and_true, and_false, false_or, or_false, true_or, or_true, iff_true, true_iff, iff_false, false_iff]; done) | (simp_all; done) | (refine congrArg Value.bool (Bool.eq_iff_iff.2 ?_); simp_all; done) | (simp_all; omega)
    · -- t5 = F
      refine WL.goff rfl rfl (by decide) ?_   -- t6 := move t0 [if 2=true]
      refine WL.goff rfl rfl (by decide) ?_   -- t7 := binOp leq 5 t6 c(57:u8) 5 [if 2=true]
      refine WL.val (Y.pick rfl rfl) (by decide) ?_   -- t8 := pick t5 t7 c(false)
      refine WL.nil ⟨⟨_, rfl, ?_⟩, rfl, (by repeat (first | exact Fr.le.refl | refine Fr.le.push rfl ?_))⟩
      first | (simp only [*, Bool.not_eq_true', decide_eq_false_iff_not, decide_eq_true_eq, not_true_eq_false, not_false_eq_true, true_and, false_and, and_true, and_false, false_or, or_false, true_or, or_true, iff_true, true_iff, iff_false, false_iff]; done) | (simp_all; done) | (refine congrArg Value.bool (Bool.eq_iff_iff.2 ?_); simp_all; done) | (simp_all; omega)
  first | refine CW.condD rfl (fun ht3 => ?_) (fun ht3 => ?_) | refine CW.condND rfl (fun ht3 => ?_) (fun ht3 => ?_) | refine CW.condN rfl (fun ht3 => ?_) (fun ht3 => ?_) | refine CW.cond rfl (fun ht3 => ?_) (fun ht3 => ?_)
  · -- then
    refine CW.seq fun K4 hK4 => ?_
    refine CW.region ?_   -- region 2
    refine WL.val (Y.move rfl) (by decide) ?_   -- t9 := move t0
    refine WL.val (Y.sub_k rfl rfl) (by decide) ?_   -- t10 := binOp sub 5 t9 c(48:u8) 5
    refine WL.val (Y.conv_int Tryd.underlying5 Tryd.underlying3 rfl) (by decide) ?_   -- t11 := convert 5 3 t10
    refine WL.val (Y.assign rfl) (by decide) ?_   -- t2 := assign t11
    refine WL.nil ?_
    refine hK4 _ _ ?_; try clear hK4 K4
    refine CW.ret ⟨_, rfl, ?_⟩
    exact ⟨by rw [dig_a _ hc (by omega) (by omega), digN, if_pos (by omega)], hE⟩
  -- else
  refine CW.skip ?_
  refine hK2 _ _ ?_; try clear hK2 K2
  refine CW.seq fun K5 hK5 => ?_
  refine CW.seq_test 17 (97 ≤ c.toNat ∧ c.toNat ≤ 102) ?_ ?_
  · refine CW.region ?_
    refine WL.val (Y.move rfl) (by decide) ?_   -- t12 := move t0
    refine WL.val (Y.geq rfl rfl) (by decide) ?_   -- t13 := binOp geq 5 t12 c(97:u8) 5
    refine WL.val (Y.move rfl) (by decide) ?_   -- t14 := move t13
    first | refine WL.casesD (d := 14) rfl (fun hg14 => ?_) (fun hg14 => ?_) | refine WL.casesND (d := 14) rfl (fun hg14 => ?_) (fun hg14 => ?_) | refine WL.cases (d := 14) rfl (fun hg14 => ?_) (fun hg14 => ?_)
    · -- t14 = T
      refine WL.gval rfl rfl (Y.move rfl) (by decide) ?_   -- t15 := move t0 [if 2=true]
      refine WL.gval rfl rfl (Y.leq rfl rfl) (by decide) ?_   -- t16 := binOp leq 5 t15 c(102:u8) 5 [if 2=true]
      refine WL.val (Y.pick rfl rfl) (by decide) ?_   -- t17 := pick t14 t16 c(false)
      refine WL.nil ⟨⟨_, rfl, ?_⟩, rfl, (by repeat (first | exact Fr.le.refl | refine Fr.le.push rfl ?_))⟩
      first | (simp only [*, Bool.not_eq_true', decide_eq_false_iff_not, decide_eq_true_eq, not_true_eq_false, not_false_eq_true, true_and, false_and, and_true, and_false, false_or, or_false, true_or, or_true, iff_true, true_iff, iff_false, false_iff]; done) | (simp_all; done) | (refine congrArg Value.bool (Bool.eq_iff_iff.2 ?_); simp_all; done) | (simp_all; omega)
    · -- t14 = F
      refine WL.goff rfl rfl (by decide) ?_   -- t15 := move t0 [if 2=true]
      refine WL.goff rfl rfl (by decide) ?_   -- t16 := binOp leq 5 t15 c(102:u8) 5 [if 2=true]
      refine WL.val (Y.pick rfl rfl) (by decide) ?_   -- t17 := pick t14 t16 c(false)
      refine WL.nil ⟨⟨_, rfl, ?_⟩, rfl, (by repeat (first | exact Fr.le.refl | refine Fr.le.push rfl ?_))⟩
      first | (simp only [*, Bool.not_eq_true', decide_eq_false_iff_not, decide_eq_true_eq, not_true_eq_false, not_false_eq_true, true_and, false_and, and_true, and_false, false_or, or_false, true_or, or_true, iff_true, true_iff, iff_false, false_iff]; done) | (simp_all; done) | (refine congrArg Value.bool (Bool.eq_iff_iff.2 ?_); simp_all; done) | (simp_all; omega)
  first | refine CW.condD rfl (fun ht6 => ?_) (fun ht6 => ?_) | refine CW.condND rfl (fun ht6 => ?_) (fun ht6 => ?_) | refine CW.condN rfl (fun ht6 => ?_) (fun ht6 => ?_) | refine CW.cond rfl (fun ht6 => ?_) (fun ht6 => ?_)
  · -- then
    refine CW.seq fun K7 hK7 => ?_
    refine CW.region ?_   -- region 4
    refine WL.val (Y.move rfl) (by decide) ?_   -- t18 := move t0
    refine WL.val (Y.sub_k rfl rfl) (by decide) ?_   -- t19 := binOp sub 5 t18 c(97:u8) 5
    refine WL.val (Y.conv_int Tryd.underlying5 Tryd.underlying3 rfl) (by decide) ?_   -- t20 := convert 5 3 t19
    rw [dig_b _ hc (by omega) (by omega)]
    refine WL.val (Y.add rfl rfl ⟨by omega, by omega⟩) (by decide) ?_   -- t21 := binOp add 3 t20 c(10:i64) 3
    refine WL.val (Y.assign rfl) (by decide) ?_   -- t2 := assign t21
    refine WL.nil ?_
    refine hK7 _ _ ?_; try clear hK7 K7
    refine CW.ret ⟨_, rfl, ?_⟩
    exact ⟨by rw [digN, if_neg (by omega), if_pos (by omega)]; simp, hE⟩
  -- else
  refine CW.skip ?_
  refine hK5 _ _ ?_; try clear hK5 K5
  refine CW.seq fun K8 hK8 => ?_
  refine CW.region ?_   -- region 5
  refine WL.val (Y.assign rfl) (by decide) ?_   -- t2 := assign c(16:i64)
  refine WL.nil ?_
  refine hK8 _ _ ?_; try clear hK8 K8
  refine CW.ret ⟨_, rfl, ?_⟩
  exact ⟨by rw [digN, if_neg (by omega), if_neg (by omega)]; rfl, hE⟩
theorem word_any (s : ByteArray) (i : Nat) (w : World) (hi : 8 * i + 8 ≤ s.size) (hs : s.size ≤ maxLen) : Calls Tryd.prog 40 #[.string s, .int .i64 (i : Int)] w (Ret fun v w' => v = wd (wordL s.toList i 8) ∧ Ext w w') := by
  unfold maxLen at hs
  have hsl := toList_length s
  refine calls_of_CW 25 [4] [(0, .string s), (1, .int .i64 (i : Int))] Tryd.func40 rfl rfl rfl (by simp) args2 ?_
  have hE : Ext w w := Chg.refl
  refine CW.seq fun K1 hK1 => ?_
  refine CW.region ?_   -- region 0
  refine WL.val (Y.assign rfl) (by decide) ?_   -- t4 := assign c(0:u32)
  refine WL.nil ?_
  refine hK1 _ _ ?_; try clear hK1 K1
  refine CW.seq fun K2 hK2 => ?_
  refine CW.region ?_   -- region 1
  refine WL.val (Y.assign rfl) (by decide) ?_   -- t5 := assign c(0:u32)
  refine WL.nil ?_
  refine hK2 _ _ ?_; try clear hK2 K2
  refine CW.seq fun K3 hK3 => ?_
  refine CW.seq fun K4 hK4 => ?_
  refine CW.region ?_   -- region 2
  refine WL.val (Y.move rfl) (by decide) ?_   -- t7 := move t1
  refine WL.val (Y.mul rfl rfl ⟨by omega, by omega⟩) (by decide) ?_   -- t8 := binOp mul 3 c(8:i64) t7 3
  refine WL.val (Y.assign rfl) (by decide) ?_   -- t6 := assign t8
  refine WL.nil ?_
  refine hK4 _ _ ?_; try clear hK4 K4
  refine CW.block ?_   -- block 0
  refine CW.loop (X := Nat) (fun x => [(0, .string s), (1, .int .i64 (i : Int)), (5, wd (wordL s.toList i x)), (6, .int .i64 ((8 * i + x : Nat) : Int))]) (fun x w0 => x ≤ 8 ∧ Ext w w0) (fun x => 8 - x) 0 (by first | exact Fr.le.nil | repeat (first | exact Fr.le.nil | refine Fr.le.cons rfl ?_)) ⟨Nat.zero_le _, hE⟩ ?_
  intro x w1 hl1
  obtain ⟨hx, hE⟩ := hl1
  refine CW.seq fun K5 hK5 => ?_
  refine CW.seq fun K6 hK6 => ?_
  refine CW.region ?_   -- region 3
  refine WL.val (Y.move rfl) (by decide) ?_   -- t9 := move t6
  refine WL.val (Y.move rfl) (by decide) ?_   -- t10 := move t1
  refine WL.val (Y.mul rfl rfl ⟨by omega, by omega⟩) (by decide) ?_   -- t11 := binOp mul 3 c(8:i64) t10 3
  refine WL.val (Y.add rfl rfl ⟨by omega, by omega⟩) (by decide) ?_   -- t12 := binOp add 3 t11 c(8:i64) 3
  refine WL.val (Y.lss rfl rfl) (by decide) ?_   -- t13 := binOp lss 3 t9 t12 3
  refine WL.nil ?_
  refine hK6 _ _ ?_; try clear hK6 K6
  first | refine CW.condD rfl (fun ht7 => ?_) (fun ht7 => ?_) | refine CW.condND rfl (fun ht7 => ?_) (fun ht7 => ?_) | refine CW.condN rfl (fun ht7 => ?_) (fun ht7 => ?_) | refine CW.cond rfl (fun ht7 => ?_) (fun ht7 => ?_)
  · -- then
    refine CW.skip ?_
    refine hK5 _ _ ?_; try clear hK5 K5
    refine CW.seq fun K8 hK8 => ?_
    refine CW.block ?_   -- block 1
    refine CW.region ?_   -- region 5
    refine WL.val (Y.move rfl) (by decide) ?_   -- t16 := move t5
    refine WL.val (Y.mulW (p := 16) rfl rfl) (by decide) ?_   -- t17 := binOp mul 72 c(16:u32) t16 72
    refine WL.val (Y.move rfl) (by decide) ?_   -- t18 := move t0
    refine WL.val (Y.move rfl) (by decide) ?_   -- t19 := move t6
    refine WL.val (Y.index_string (i := (8 * i + x)) Tryd.underlying9 rfl rfl (by omega)) (by decide) ?_   -- t20 := index 9 t18 t19
    refine WL.call Tryd.func48 rfl rfl rfl (digit_any _ _) (by simp) ?_; rintro v w2 ⟨rfl, hx2⟩; have hz2 := hx2.size; have hE := hE.thenExt hx2   -- t21 := call F48(t20) : 5
    refine WL.val (Y.convNW Tryd.underlying3 Tryd.underlying72 rfl) (by decide) ?_   -- t22 := convert 3 72 t21
    refine WL.val (Y.addW rfl rfl) (by decide) ?_   -- t23 := binOp add 72 t17 t22 72
    refine WL.val (Y.assign rfl) (by decide) ?_   -- t5 := assign t23
    refine WL.nil ?_
    refine hK8 _ _ ?_; try clear hK8 K8
    refine CW.region ?_   -- region 4
    refine WL.val (Y.move rfl) (by decide) ?_   -- t14 := move t6
    refine WL.val (Y.add rfl rfl ⟨by omega, by omega⟩) (by decide) ?_   -- t15 := binOp add 3 t14 c(1:i64) 3
    refine WL.val (Y.assign rfl) (by decide) ?_   -- t6 := assign t15
    refine WL.nil ?_
    have e1 : wordL s.toList i (x + 1) = 16 * wordL s.toList i x + UInt32.ofNat (digN s[8 * i + x]) := by rw [wordL, List.getD_eq_getElem?_getD, get_toList (by omega)]; rfl
    have e2 : ((8 * i + (x + 1) : Nat) : Int) = ((8 * i + x : Nat) : Int) + 1 := by omega
    refine ⟨x + 1, by show 8 - (x + 1) < 8 - x; omega, ?_, by show x + 1 ≤ 8; omega, hE⟩
    show Fr.le [(0, .string s), (1, .int .i64 (i : Int)), (5, wd (wordL s.toList i (x + 1))), (6, .int .i64 ((8 * i + (x + 1) : Nat) : Int))] _
    rw [e1, e2]
    exact (by repeat (first | exact Fr.le.nil | refine Fr.le.cons rfl ?_))
  -- else
  refine CW.exit ?_   -- exit 0
  refine hK3 _ _ ?_; try clear hK3 K3
  refine CW.seq fun K9 hK9 => ?_
  refine CW.region ?_   -- region 6
  refine WL.val (Y.move rfl) (by decide) ?_   -- t24 := move t5
  refine WL.val (Y.assign rfl) (by decide) ?_   -- t4 := assign t24
  refine WL.nil ?_
  refine hK9 _ _ ?_; try clear hK9 K9
  refine CW.ret ⟨_, rfl, ?_⟩
  exact ⟨by rw [show x = 8 by omega], hE⟩
end Go.Proofs.YtkbmlnkoejlgmaaDoor
