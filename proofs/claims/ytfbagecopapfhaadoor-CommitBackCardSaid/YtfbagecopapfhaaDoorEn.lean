/- A commit's bytes: wire.put, wire.Num, wire.Text, commit.num, commit.op, commit.Encode, walked. No condition. -/
import Derived.Test.YtfbagecopapfhaaDoorAp
import Derived.Test.YtfbagecopapfhaaDoorPe
import Derived.Test.YtfbagecopapfhaaDoorMy
set_option linter.unusedSimpArgs false
set_option linter.unusedVariables false
namespace Go.Proofs.YtfbagecopapfhaaDoor
open Go.RowKit Go.Fw Go.Pl
theorem u8_of (n : Nat) : IntKind.u8.wrap (n : Int) = ((UInt8.ofNat n).toNat : Int) := by simp [IntKind.wrap, IntKind.bits, IntKind.signed]
theorem u8_or (n : Nat) : IntKind.u8.wrap ((BitVec.ofInt IntKind.u8.bits (IntKind.u8.wrap (n : Int)) ||| BitVec.ofInt IntKind.u8.bits 128).toNat : Int) = ((UInt8.ofNat (n % 128 + 128)).toNat : Int) := by
  rw [show IntKind.u8.wrap (n : Int) = (((n % 256 : Nat)) : Int) by simp [IntKind.wrap, IntKind.bits, IntKind.signed]]
  have h : ∀ m, m < 256 → IntKind.u8.wrap ((BitVec.ofInt IntKind.u8.bits ((m : Nat) : Int) ||| BitVec.ofInt IntKind.u8.bits 128).toNat : Int) = ((UInt8.ofNat (m % 128 + 128)).toNat : Int) := by decide +kernel
  rw [h (n % 256) (by omega), Nat.mod_mod_of_dvd _ (by decide)]
theorem shr7 (n : Nat) : ((n : Int)).fdiv (2 ^ (min (7 : Int).toNat IntKind.i64.bits)) = ((n / 128 : Nat) : Int) := by
  show ((n : Int)).fdiv 128 = _
  rw [Int.fdiv_eq_ediv_of_nonneg _ (by decide)]
  rfl
theorem or_1 : IntKind.i64.wrap ((BitVec.ofInt IntKind.i64.bits 0 ||| BitVec.ofInt IntKind.i64.bits 1).toNat : Int) = 1 := by decide
theorem or_2 (c : Prop) [Decidable c] : IntKind.i64.wrap ((BitVec.ofInt IntKind.i64.bits (if c then 1 else 0) ||| BitVec.ofInt IntKind.i64.bits 2).toNat : Int) = (if c then 1 else 0) + 2 := by by_cases h : c <;> simp only [h, if_true, if_false] <;> decide
theorem or_4 (c d : Prop) [Decidable c] [Decidable d] : IntKind.i64.wrap ((BitVec.ofInt IntKind.i64.bits ((if c then 1 else 0) + (if d then 2 else 0)) ||| BitVec.ofInt IntKind.i64.bits 4).toNat : Int) = (if c then 1 else 0) + (if d then 2 else 0) + 4 := by by_cases h : c <;> by_cases h' : d <;> simp only [h, h', if_true, if_false] <;> decide
theorem or_8 (c d : Prop) [Decidable c] [Decidable d] : IntKind.i64.wrap ((BitVec.ofInt IntKind.i64.bits ((if c then 1 else 0) + (if d then 2 else 0)) ||| BitVec.ofInt IntKind.i64.bits 8).toNat : Int) = (if c then 1 else 0) + (if d then 2 else 0) + 8 := by by_cases h : c <;> by_cases h' : d <;> simp only [h, h', if_true, if_false] <;> decide
theorem or_own {x : OpD} (h : x.at_.own = true) : IntKind.i64.wrap ((BitVec.ofInt IntKind.i64.bits ((if x.kind = 2 then 1 else 0) + (if x.left = true then 2 else 0)) ||| BitVec.ofInt IntKind.i64.bits 4).toNat : Int) = flagI x := by rw [or_4, flagI, if_pos h]
theorem or_far {x : OpD} (h : x.at_.own = false) (h' : rootB x.at_ = false) : IntKind.i64.wrap ((BitVec.ofInt IntKind.i64.bits ((if x.kind = 2 then 1 else 0) + (if x.left = true then 2 else 0)) ||| BitVec.ofInt IntKind.i64.bits 8).toNat : Int) = flagI x := by rw [or_8, flagI, h, h']; rfl
theorem or_root {x : OpD} (h : x.at_.own = false) (h' : rootB x.at_ = true) : (if x.kind = 2 then 1 else 0) + (if x.left = true then 2 else 0) = flagI x := by rw [flagI, h, h']; exact (Int.add_zero _).symm
theorem flag_lt (x : OpD) : flagI x < 9223372036854775808 := by have := flagI_range x; omega
theorem flag_len (x : OpD) : (numB (flagI x)).length ≤ 9 := numB_len (flag_lt x)
theorem Blk.src1 {w : World} {g : Nat} {b : UInt8} (h : Blk w g 5 [Value.int .u8 (b.toNat : Int)]) : Src Tryd.prog w 1 (.slice (some ⟨g, 0, none⟩) 1 1) 1 (bytesC [b]) := Src.slice (by rfl) fun _ => ⟨_, rfl, h.mem⟩

theorem put_any (v : Value) (xs : List UInt8) (n : Nat) (w : World) (ho : Own w 5 1 v (bytesC xs)) (hr : xs.length + (vi n).length ≤ 140737488355328) : Calls Tryd.prog 38 #[v, .int .i64 (n : Int)] w (Ret fun v' w' => AppB 5 w v xs w' v' (vi n)) := by
  refine calls_of_CW 20 [4] [(0, v), (1, .int .i64 (n : Int))] Tryd.func38 rfl rfl rfl (by simp) args2 ?_
  refine CW.seq fun K1 hK1 => ?_
  refine CW.region ?_   -- region 0
  refine WL.val (Y.assign rfl) (by decide) ?_   -- t4 := assign c(nilslice)
  refine WL.nil ?_
  refine hK1 _ _ ?_; try clear hK1 K1
  refine CW.seq fun K2 hK2 => ?_
  refine CW.block ?_   -- block 0
  refine CW.loop (X := Nat × List UInt8 × Value) (fun x => [(0, x.2.2), (1, .int .i64 (x.1 : Int))]) (fun x w0 => AppB 5 w v xs w0 x.2.2 x.2.1 ∧ x.2.1 ++ vi x.1 = vi n) (fun x => x.1) (n, [], v) (Fr.le.cons rfl (Fr.le.cons rfl Fr.le.nil)) ⟨AppB.refl ho, rfl⟩ ?_
  intro x w1 hl1
  obtain ⟨n1, pre, v1⟩ := x
  dsimp only at hl1 ⊢
  obtain ⟨hA, hvi⟩ := hl1
  have hlen := congrArg List.length hvi
  simp only [List.length_append] at hlen
  try simp only [] at hlen hvi
  refine CW.seq fun K3 hK3 => ?_
  refine CW.seq fun K4 hK4 => ?_
  refine CW.region ?_   -- region 1
  refine WL.val (Y.move rfl) (by decide) ?_   -- t5 := move t1
  refine WL.val (Y.geq rfl rfl) (by decide) ?_   -- t6 := binOp geq 3 t5 c(128:i64) 3
  refine WL.nil ?_
  refine hK4 _ _ ?_; try clear hK4 K4
  first | refine CW.condD rfl (fun ht5 => ?_) (fun ht5 => ?_) | refine CW.condND rfl (fun ht5 => ?_) (fun ht5 => ?_) | refine CW.condN rfl (fun ht5 => ?_) (fun ht5 => ?_) | refine CW.cond rfl (fun ht5 => ?_) (fun ht5 => ?_)
  · -- then
    refine CW.skip ?_
    refine hK3 _ _ ?_; try clear hK3 K3
    refine CW.seq fun K6 hK6 => ?_
    refine CW.block ?_   -- block 1
    refine CW.region ?_   -- region 3
    refine WL.val (Y.move rfl) (by decide) ?_   -- t9 := move t0
    refine WL.val (Y.move rfl) (by decide) ?_   -- t10 := move t1
    refine WL.val (Y.conv_int Tryd.underlying3 Tryd.underlying5 rfl) (by decide) ?_   -- t11 := convert 3 5 t10
    refine WL.val (Y.or_k rfl rfl ((u8_or n1))) (by decide) ?_   -- t12 := binOp or 5 t11 c(128:u8) 5
    refine WL.st (St.buildSlice rfl (bs1 _)) (by decide) fun v13 w2 hR2 => ?_   -- t13 := buildSlice 27 1 [(0,t12)]
    obtain ⟨g, rfl, hg, hB, hx⟩ := hR2
    refine WL.st (St.app Tryd.underlying27 Tryd.underlying27 ai_u8 rfl rfl ((hA.extR hx).1) (Blk.src1 hB) (by rw [vi_ge (n := n1) (by omega)] at hlen; simp only [List.length_append, List.length_cons] at hlen ⊢; omega)) (by decide) fun v14 w3 hR3 => ?_   -- t14 := call append(t9, t13) : 27,27
    have hA2 := (hA.extR hx).trans hR3
    refine WL.val (Y.assign rfl) (by decide) ?_   -- t0 := assign t14
    refine WL.nil ?_
    refine hK6 _ _ ?_; try clear hK6 K6
    refine CW.region ?_   -- region 2
    refine WL.val (Y.move rfl) (by decide) ?_   -- t7 := move t1
    refine WL.val (Y.shr rfl rfl (by decide) (shr7 n1)) (by decide) ?_   -- t8 := binOp shr 3 t7 c(7:u64) 82
    refine WL.val (Y.assign rfl) (by decide) ?_   -- t1 := assign t8
    refine WL.nil ?_
    refine ⟨(n1 / 128, pre ++ [UInt8.ofNat (n1 % 128 + 128)], _), by show n1 / 128 < n1; omega, (Fr.le.cons rfl (Fr.le.cons rfl Fr.le.nil)), hA2, ?_⟩
    rw [← hvi, vi_ge (n := n1) (by omega)]
    simp
  -- else
  refine CW.exit ?_   -- exit 0
  refine hK2 _ _ ?_; try clear hK2 K2
  refine CW.seq fun K7 hK7 => ?_
  refine CW.region ?_   -- region 4
  refine WL.val (Y.move rfl) (by decide) ?_   -- t15 := move t0
  refine WL.val (Y.move rfl) (by decide) ?_   -- t16 := move t1
  refine WL.val (Y.conv_int Tryd.underlying3 Tryd.underlying5 rfl) (by decide) ?_   -- t17 := convert 3 5 t16
  refine WL.st (St.buildSlice rfl (bs1 _)) (by decide) fun v18 w4 hR4 => ?_   -- t18 := buildSlice 27 1 [(0,t17)]
  obtain ⟨g, rfl, hg, hB, hx⟩ := hR4
  refine WL.st (St.app Tryd.underlying27 Tryd.underlying27 ai_u8 rfl rfl ((hA.extR hx).1) (Blk.src1 (by rw [← u8_of]; exact hB)) (by rw [vi_lt (n := n1) (by omega)] at hlen; simp only [List.length_append, List.length_cons, List.length_nil] at hlen ⊢; omega)) (by decide) fun v19 w5 hR5 => ?_   -- t19 := call append(t15, t18) : 27,27
  have hA2 := (hA.extR hx).trans hR5
  refine WL.val (Y.assign rfl) (by decide) ?_   -- t4 := assign t19
  refine WL.nil ?_
  refine hK7 _ _ ?_; try clear hK7 K7
  refine CW.ret ⟨_, rfl, ?_⟩
  rw [← hvi, vi_lt (n := n1) (by omega)]
  exact hA2
theorem num_any (n : Int) (w : World) (hn : n < 9223372036854775808) : Calls Tryd.prog 37 #[.int .i64 n] w (Ret fun v w' => ∃ u, v = .tuple #[u, .int .i64 (if n < 0 then 9 else 0)] ∧ AppB 5 w (.slice none 0 0) [] w' u (numB n)) := by
  refine calls_of_CW 8 [2, 3] [(0, .int .i64 n)] Tryd.func37 rfl rfl rfl (by simp) args1 ?_
  refine CW.seq fun K1 hK1 => ?_
  refine CW.region ?_   -- region 0
  refine WL.val (Y.assign rfl) (by decide) ?_   -- t2 := assign c(nilslice)
  refine WL.val (Y.assign rfl) (by decide) ?_   -- t3 := assign c(0:i64)
  refine WL.nil ?_
  refine hK1 _ _ ?_; try clear hK1 K1
  refine CW.seq fun K2 hK2 => ?_
  refine CW.seq fun K3 hK3 => ?_
  refine CW.region ?_   -- region 1
  refine WL.val (Y.move rfl) (by decide) ?_   -- t4 := move t0
  refine WL.val (Y.lss rfl rfl) (by decide) ?_   -- t5 := binOp lss 3 t4 c(0:i64) 3
  refine WL.nil ?_
  refine hK3 _ _ ?_; try clear hK3 K3
  first | refine CW.condD rfl (fun ht4 => ?_) (fun ht4 => ?_) | refine CW.condND rfl (fun ht4 => ?_) (fun ht4 => ?_) | refine CW.condN rfl (fun ht4 => ?_) (fun ht4 => ?_) | refine CW.cond rfl (fun ht4 => ?_) (fun ht4 => ?_)
  · -- then
    refine CW.seq fun K5 hK5 => ?_
    refine CW.region ?_   -- region 2
    refine WL.val (Y.assign rfl) (by decide) ?_   -- t2 := assign c(nilslice)
    refine WL.val (Y.assign rfl) (by decide) ?_   -- t3 := assign c(9:i64)
    refine WL.nil ?_
    refine hK5 _ _ ?_; try clear hK5 K5
    refine CW.ret ⟨_, rfl, ?_⟩
    exact ⟨_, by rw [if_pos ht4], by rw [numB, if_pos ht4]; exact AppB.refl Own.nil⟩
  -- else
  refine CW.skip ?_
  refine hK2 _ _ ?_; try clear hK2 K2
  refine CW.seq fun K6 hK6 => ?_
  refine CW.region ?_   -- region 3
  refine WL.val (Y.move rfl) (by decide) ?_   -- t6 := move t0
  refine WL.call Tryd.func38 rfl rfl rfl ((by rw [← Int.toNat_of_nonneg (Int.not_lt.1 ht4)]; exact put_any _ [] _ _ Own.nil (by have := vi_len9 (n := n.toNat) (by omega); simp; omega))) (by simp) ?_; rintro v7 w1 hR1   -- t7 := call F38(c(nilslice), t6) : 27,3
  skip
  refine WL.val (Y.assign rfl) (by decide) ?_   -- t2 := assign t7
  refine WL.val (Y.assign rfl) (by decide) ?_   -- t3 := assign c(0:i64)
  refine WL.nil ?_
  refine hK6 _ _ ?_; try clear hK6 K6
  refine CW.ret ⟨_, rfl, ?_⟩
  exact ⟨_, by rw [if_neg ht4], by rw [numB, if_neg ht4]; exact hR1⟩
theorem text_any (s : ByteArray) (w : World) (hs : s.size ≤ 140737488355300) : Calls Tryd.prog 17 #[.string s] w (Ret fun v w' => AppB 5 w (.slice none 0 0) [] w' v (textB s.toList)) := by
  have h9 := vi_len9 (n := s.size) (by omega)
  refine calls_of_CW 8 [2] [(0, .string s)] Tryd.func17 rfl rfl rfl (by simp) args1 ?_
  refine CW.seq fun K1 hK1 => ?_
  refine CW.region ?_   -- region 0
  refine WL.val (Y.assign rfl) (by decide) ?_   -- t2 := assign c(nilslice)
  refine WL.nil ?_
  refine hK1 _ _ ?_; try clear hK1 K1
  refine CW.seq fun K2 hK2 => ?_
  refine CW.region ?_   -- region 1
  refine WL.val (Y.move rfl) (by decide) ?_   -- t3 := move t0
  refine WL.val (Y.len_string Tryd.underlying9 rfl) (by decide) ?_   -- t4 := call len(t3) : 9
  refine WL.call Tryd.func38 rfl rfl rfl ((put_any _ [] s.size _ Own.nil (by simp; omega))) (by simp) ?_; rintro v5 w1 hR1   -- t5 := call F38(c(nilslice), t4) : 27,3
  skip
  refine WL.val (Y.move rfl) (by decide) ?_   -- t6 := move t0
  refine WL.st (St.appS Tryd.underlying27 Tryd.underlying9 ai_u8 rfl rfl hR1.1 (by simp; omega)) (by decide) fun v7 w2 hR2 => ?_   -- t7 := call append(t5, t6) : 27,9
  skip
  refine WL.val (Y.assign rfl) (by decide) ?_   -- t2 := assign t7
  refine WL.nil ?_
  refine hK2 _ _ ?_; try clear hK2 K2
  refine CW.ret ⟨_, rfl, ?_⟩
  unfold textB
  rw [toList_length]
  exact hR1.trans hR2
theorem cnum_any (v : Value) (xs : List UInt8) (n : Int) (w : World) (ho : Own w 5 1 v (bytesC xs)) (hn : n < 9223372036854775808) (hr : xs.length + 20 ≤ 140737488355328) : Calls Tryd.prog 16 #[v, .int .i64 n] w (Ret fun v' w' => AppB 5 w v xs w' v' (numB n)) := by
  refine calls_of_CW 15 [4] [(0, v), (1, .int .i64 n)] Tryd.func16 rfl rfl rfl (by simp) args2 ?_
  refine CW.seq fun K1 hK1 => ?_
  refine CW.region ?_   -- region 0
  refine WL.val (Y.assign rfl) (by decide) ?_   -- t4 := assign c(nilslice)
  refine WL.nil ?_
  refine hK1 _ _ ?_; try clear hK1 K1
  refine CW.seq fun K2 hK2 => ?_
  refine CW.region ?_   -- region 1
  refine WL.val (Y.move rfl) (by decide) ?_   -- t8 := move t1
  refine WL.call Tryd.func37 rfl rfl rfl ((num_any n _ hn)) (by simp) ?_; rintro v9 w1 hR1   -- t9 := call F37(t8) : 3
  obtain ⟨u, rfl, hA⟩ := hR1
  refine WL.val (Y.move rfl) (by decide) ?_   -- t7 := move t9
  refine WL.val (Y.extract rfl rfl) (by decide) ?_   -- t10 := extract t7 0
  refine WL.val (Y.extract rfl rfl) (by decide) ?_   -- t11 := extract t7 1
  refine WL.val (Y.assign rfl) (by decide) ?_   -- t5 := assign t10
  refine WL.val (Y.assign rfl) (by decide) ?_   -- t6 := assign t11
  refine WL.nil ?_
  refine hK2 _ _ ?_; try clear hK2 K2
  refine CW.seq fun K3 hK3 => ?_
  refine CW.region ?_   -- region 2
  refine WL.val (Y.move rfl) (by decide) ?_   -- t12 := move t0
  refine WL.val (Y.move rfl) (by decide) ?_   -- t13 := move t5
  refine WL.st (St.app Tryd.underlying27 Tryd.underlying27 ai_u8 rfl rfl (ho.ext hA.nilExt) (Src.own hA.nilOwn) (by have := numB_len hn; omega)) (by decide) fun v14 w2 hR2 => ?_   -- t14 := call append(t12, t13) : 27,27
  skip
  refine WL.val (Y.assign rfl) (by decide) ?_   -- t4 := assign t14
  refine WL.nil ?_
  refine hK3 _ _ ?_; try clear hK3 K3
  refine CW.ret ⟨_, rfl, ?_⟩
  exact hR2.extL hA.nilExt
theorem cop_any (v : Value) (xs : List UInt8) (x : OpD) (w : World) (ho : Own w 5 1 v (bytesC xs)) (hn : x.at_.n < 9223372036854775808) (hr : xs.length + 100 ≤ 140737488355328) : Calls Tryd.prog 18 #[v, opV x] w (Ret fun v' w' => AppB 5 w v xs w' v' (opB x)) := by
  have ho0 := ho
  refine calls_of_CW 55 [4] [(0, v), (1, opV x)] Tryd.func18 rfl rfl rfl (by simp) args2 ?_
  refine CW.seq fun K1 hK1 => ?_
  refine CW.region ?_   -- region 0
  refine WL.box rfl rfl (by decide) fun g3 w1 hx1 hg3 hB3 => ?_   -- t3 := box 51 t1
  have hM3 := hB3.mem; have hB0 := hB3
  refine WL.val (Y.assign rfl) (by decide) ?_   -- t4 := assign c(nilslice)
  refine WL.nil ?_
  refine hK1 _ _ ?_; try clear hK1 K1
  refine CW.seq fun K2 hK2 => ?_
  refine CW.region ?_   -- region 1
  refine WL.val (Y.assign rfl) (by decide) ?_   -- t5 := assign c(0:i64)
  refine WL.nil ?_
  refine hK2 _ _ ?_; try clear hK2 K2
  refine CW.seq_to (X := Unit) (fun _ => [(0, v), (3, .pointer (some ⟨g3, 0, none⟩)), (5, .int .i64 (if x.kind = 2 then 1 else 0))]) (fun _ w0 => Ext w1 w0) ?_ ?_
  · skip
    refine CW.seq fun K4 hK4 => ?_
    refine CW.region ?_   -- region 2
    refine WL.val (Y.fieldAddr fo_apiOp0 rfl) (by decide) ?_   -- t6 := fieldAddr 51 t3 0
    refine WL.val (Y.load1 Tryd.underlying3 rfl hM3.op0 rfl) (by decide) ?_   -- t7 := load 3 t6
    refine WL.val (Y.eql rfl rfl) (by decide) ?_   -- t8 := binOp eql 3 t7 c(2:i64) 3
    refine WL.nil ?_
    refine hK4 _ _ ?_; try clear hK4 K4
    first | refine CW.condD rfl (fun ht5 => ?_) (fun ht5 => ?_) | refine CW.condND rfl (fun ht5 => ?_) (fun ht5 => ?_) | refine CW.condN rfl (fun ht5 => ?_) (fun ht5 => ?_) | refine CW.cond rfl (fun ht5 => ?_) (fun ht5 => ?_)
    · -- then
      refine CW.region ?_   -- region 3
      refine WL.val (Y.move rfl) (by decide) ?_   -- t9 := move t5
      refine WL.val (Y.or_k rfl rfl (or_1)) (by decide) ?_   -- t10 := binOp or 3 t9 c(1:i64) 3
      refine WL.val (Y.assign rfl) (by decide) ?_   -- t5 := assign t10
      refine WL.nil ?_
      exact ⟨(), Fr.le.cons rfl (Fr.le.cons rfl (Fr.le.cons (by rw [if_pos ht5]; rfl) Fr.le.nil)), Chg.refl⟩
    -- else
    refine CW.skip ?_
    exact ⟨(), Fr.le.cons rfl (Fr.le.cons rfl (Fr.le.cons (by rw [if_neg ht5]; rfl) Fr.le.nil)), Chg.refl⟩
  rintro u w2 hj2
  have hM3 := hM3.ext hj2
  have hB3 := hB3.ext hj2
  have hx2 := hj2
  refine CW.seq_to (X := Unit) (fun _ => [(0, v), (3, .pointer (some ⟨g3, 0, none⟩)), (5, .int .i64 ((if x.kind = 2 then 1 else 0) + (if x.left = true then 2 else 0)))]) (fun _ w0 => Ext w1 w0) ?_ ?_
  · skip
    refine CW.seq fun K7 hK7 => ?_
    refine CW.region ?_   -- region 4
    refine WL.val (Y.fieldAddr fo_apiOp1 rfl) (by decide) ?_   -- t11 := fieldAddr 51 t3 1
    refine WL.val (Y.load1 Tryd.underlying4 rfl hM3.op1 rfl) (by decide) ?_   -- t12 := load 4 t11
    refine WL.nil ?_
    refine hK7 _ _ ?_; try clear hK7 K7
    first | refine CW.condD rfl (fun ht8 => ?_) (fun ht8 => ?_) | refine CW.condND rfl (fun ht8 => ?_) (fun ht8 => ?_) | refine CW.condN rfl (fun ht8 => ?_) (fun ht8 => ?_) | refine CW.cond rfl (fun ht8 => ?_) (fun ht8 => ?_)
    · -- then
      refine CW.region ?_   -- region 5
      refine WL.val (Y.move rfl) (by decide) ?_   -- t13 := move t5
      refine WL.val (Y.or_k rfl rfl (or_2 _)) (by decide) ?_   -- t14 := binOp or 3 t13 c(2:i64) 3
      refine WL.val (Y.assign rfl) (by decide) ?_   -- t5 := assign t14
      refine WL.nil ?_
      exact ⟨(), Fr.le.cons rfl (Fr.le.cons rfl (Fr.le.cons (by rw [ht8]; rfl) Fr.le.nil)), hx2.thenExt Chg.refl⟩
    -- else
    refine CW.skip ?_
    exact ⟨(), Fr.le.cons rfl (Fr.le.cons rfl (Fr.le.cons (by rw [ht8, if_neg (show ¬ (false = true) by decide), Int.add_zero]; rfl) Fr.le.nil)), hx2.thenExt Chg.refl⟩
  rintro u w3 hj3
  have hE3 := hj3
  have ho := ho0.ext (hx1.thenExt hj3)
  have hB3 := hB0.ext hj3
  have hM3 := hB3.mem
  have hne : v.ownBlock ≠ some g3 := fun e => by have := ho0.lt _ e; omega
  have hfl := flag_len x
  have hnl := numB_len hn
  have hdl := x.at_.c.2
  refine CW.seq_to (X := Value) (fun u => [(0, u), (3, .pointer (some ⟨g3, 0, none⟩))]) (fun u w0 => AppB 5 w v xs w0 u (if x.at_.own = true then numB (flagI x) ++ numB x.at_.n else if rootB x.at_ = true then numB (flagI x) else numB (flagI x) ++ x.at_.c.1 ++ numB x.at_.n) ∧ Blk w0 g3 51 (opC x)) ?_ ?_
  · skip
    refine CW.block ?_   -- block 0
    refine CW.seq fun K10 hK10 => ?_
    refine CW.region ?_   -- region 7
    refine WL.val (Y.fieldAddr fo_apiOp2 rfl) (by decide) ?_   -- t28 := fieldAddr 51 t3 2
    refine WL.val (Y.fieldAddr fo_apiRef0 rfl) (by decide) ?_   -- t29 := fieldAddr 49 t28 0
    refine WL.val (Y.load1 Tryd.underlying4 rfl hM3.op2.ref0 rfl) (by decide) ?_   -- t30 := load 4 t29
    refine WL.val (Y.assign rfl) (by decide) ?_   -- t27 := assign t30
    refine WL.nil ?_
    refine hK10 _ _ ?_; try clear hK10 K10
    first | refine CW.condD rfl (fun ht11 => ?_) (fun ht11 => ?_) | refine CW.condND rfl (fun ht11 => ?_) (fun ht11 => ?_) | refine CW.condN rfl (fun ht11 => ?_) (fun ht11 => ?_) | refine CW.cond rfl (fun ht11 => ?_) (fun ht11 => ?_)
    · -- then
      refine CW.held (fun wq => Blk wq g3 51 (opC x)) (by kernel_rfl) 9 rfl fun w4 hx4 => ?_; have hM3 := hM3.ext hx4; have hB3 := hB3.ext hx4
      have hS : Blk w4 g3 51 (opC x) := hB3
      refine RH.take 0 (fun _ _ _ _ h => h) (by kernel_rfl) hS rfl (by kernel_rfl) (by kernel_rfl) (fun wq hq => Y.move rfl) (by decide) ?_   -- t31 := move t0
      refine RH.take 1 (fun _ _ _ _ h => h) (by kernel_rfl) hS rfl (by kernel_rfl) (by kernel_rfl) (fun wq hq => Y.move rfl) (by decide) ?_   -- t32 := move t5
      refine RH.take 2 (fun _ _ _ _ h => h) (by kernel_rfl) hS rfl (by kernel_rfl) (by kernel_rfl) (fun wq hq => Y.or_k rfl rfl (or_own ht11)) (by decide) ?_   -- t33 := binOp or 3 t32 c(4:i64) 3
      refine RH.take 4 (fun _ _ _ _ h => h) (by kernel_rfl) hS rfl (by kernel_rfl) (by kernel_rfl) (fun wq hq => Y.fieldAddr fo_apiOp2 rfl) (by decide) ?_   -- t35 := fieldAddr 51 t3 2
      refine RH.take 5 (fun _ _ _ _ h => h) (by kernel_rfl) hS rfl (by kernel_rfl) (by kernel_rfl) (fun wq hq => Y.fieldAddr fo_apiRef2 rfl) (by decide) ?_   -- t36 := fieldAddr 49 t35 2
      refine RH.take 6 (fun _ _ _ _ h => h) (by kernel_rfl) hS rfl (by kernel_rfl) (by kernel_rfl) (fun wq hq => Y.load1 Tryd.underlying3 rfl hq.mem.op2.ref2 rfl) (by decide) ?_   -- t37 := load 3 t36
      refine RH.one 3 (by kernel_rfl) ?_
      refine RS.call rfl (fun _ _ h => by cases h) Tryd.func16 rfl rfl rfl (cnum_any _ _ _ _ (ho.ext hx4) (flag_lt x) (by omega)) (by decide) fun v34 w5 hR5 => ?_   -- call F16(t31, t33) : 27,3
      have hS := hR5.blk hS hne
      have hne := hR5.away hB3.lt hne
      refine ⟨hS, ?_⟩
      refine RH.one 7 (by kernel_rfl) ?_
      refine RS.call rfl (fun _ _ h => by cases h) Tryd.func16 rfl rfl rfl (cnum_any _ _ _ _ hR5.1 hn (by rw [List.length_append]; omega)) (by decide) fun v38 w6 hR6 => ?_   -- call F16(t34, t37) : 27,3
      have hS := hR6.blk hS hne
      have hA := (hR5.trans hR6).extL (hx1.thenExt (hE3.thenExt hx4))
      refine ⟨hS, ?_⟩
      refine RH.take 8 (fun _ _ _ _ h => h) (by kernel_rfl) hS rfl (by kernel_rfl) (by kernel_rfl) (fun wq hq => Y.assign rfl) (by decide) ?_   -- t0 := assign t38
      refine RH.done (by kernel_rfl) ?_
      exact ⟨_, Fr.le.cons rfl (Fr.le.cons rfl Fr.le.nil), by rw [if_pos ht11]; exact hA, hS⟩
    -- else
    refine CW.seq fun K12 hK12 => ?_
    refine CW.region ?_   -- region 9
    refine WL.val (Y.fieldAddr fo_apiOp2 rfl) (by decide) ?_   -- t40 := fieldAddr 51 t3 2
    refine WL.val (Y.load Tryd.underlying49 rfl hM3.op2 (sz_apiRef _) rfl) (by decide) ?_   -- t41 := load 49 t40
    refine WL.call Tryd.func39 rfl rfl rfl (root_any _ _) (by simp) ?_; rintro v w7 ⟨rfl, hx7⟩; have hM3 := hM3.ext hx7; have hB3 := hB3.ext hx7   -- t42 := call F39(t41) : 49
    refine WL.val (Y.assign rfl) (by decide) ?_   -- t39 := assign t42
    refine WL.nil ?_
    refine hK12 _ _ ?_; try clear hK12 K12
    first | refine CW.condD rfl (fun ht13 => ?_) (fun ht13 => ?_) | refine CW.condND rfl (fun ht13 => ?_) (fun ht13 => ?_) | refine CW.condN rfl (fun ht13 => ?_) (fun ht13 => ?_) | refine CW.cond rfl (fun ht13 => ?_) (fun ht13 => ?_)
    · -- then
      refine CW.region ?_   -- region 10
      refine WL.val (Y.move rfl) (by decide) ?_   -- t43 := move t0
      refine WL.val (Y.move rfl) (by decide) ?_   -- t44 := move t5
      refine WL.call Tryd.func16 rfl rfl rfl (by rw [or_root ht11 (decide_eq_true ht13)]; exact cnum_any _ _ _ _ (ho.ext hx7) (flag_lt x) (by omega)) (by simp) ?_; rintro v45 w8 hR8   -- t45 := call F16(t43, t44) : 27,3
      have hS := hR8.blk hB3 hne
      refine WL.val (Y.assign rfl) (by decide) ?_   -- t0 := assign t45
      refine WL.nil ?_
      exact ⟨_, Fr.le.cons rfl (Fr.le.cons rfl Fr.le.nil), by rw [if_neg (by simp [ht11]), if_pos (show rootB x.at_ = true from decide_eq_true ht13)]; exact hR8.extL (hx1.thenExt (hE3.thenExt hx7)), hS⟩
    -- else
    refine CW.held (fun wq => Blk wq g3 51 (opC x)) (by kernel_rfl) 13 rfl fun w9 hx9 => ?_; have hM3 := hM3.ext hx9; have hB3 := hB3.ext hx9
    have hS : Blk w9 g3 51 (opC x) := hB3
    refine RH.take 0 (fun _ _ _ _ h => h) (by kernel_rfl) hS rfl (by kernel_rfl) (by kernel_rfl) (fun wq hq => Y.move rfl) (by decide) ?_   -- t15 := move t0
    refine RH.take 1 (fun _ _ _ _ h => h) (by kernel_rfl) hS rfl (by kernel_rfl) (by kernel_rfl) (fun wq hq => Y.move rfl) (by decide) ?_   -- t16 := move t5
    refine RH.take 2 (fun _ _ _ _ h => h) (by kernel_rfl) hS rfl (by kernel_rfl) (by kernel_rfl) (fun wq hq => Y.or_k rfl rfl (or_far ht11 (decide_eq_false ht13))) (by decide) ?_   -- t17 := binOp or 3 t16 c(8:i64) 3
    refine RH.take 4 (fun _ _ _ _ h => h) (by kernel_rfl) hS rfl (by kernel_rfl) (by kernel_rfl) (fun wq hq => Y.fieldAddr fo_apiOp2 rfl) (by decide) ?_   -- t19 := fieldAddr 51 t3 2
    refine RH.take 5 (fun _ _ _ _ h => h) (by kernel_rfl) hS rfl (by kernel_rfl) (by kernel_rfl) (fun wq hq => Y.fieldAddr fo_apiRef1 rfl) (by decide) ?_   -- t20 := fieldAddr 49 t19 1
    refine RH.take 6 (fun _ _ _ _ h => h) (by kernel_rfl) hS rfl (by kernel_rfl) (by kernel_rfl) (fun wq hq => Y.slice_arr Tryd.underlying34 rfl sz_uint8) (by decide) ?_   -- t21 := slice 34 t20 none none none
    refine RH.take 8 (fun _ _ _ _ h => h) (by kernel_rfl) hS rfl (by kernel_rfl) (by kernel_rfl) (fun wq hq => Y.fieldAddr fo_apiOp2 rfl) (by decide) ?_   -- t23 := fieldAddr 51 t3 2
    refine RH.take 9 (fun _ _ _ _ h => h) (by kernel_rfl) hS rfl (by kernel_rfl) (by kernel_rfl) (fun wq hq => Y.fieldAddr fo_apiRef2 rfl) (by decide) ?_   -- t24 := fieldAddr 49 t23 2
    refine RH.take 10 (fun _ _ _ _ h => h) (by kernel_rfl) hS rfl (by kernel_rfl) (by kernel_rfl) (fun wq hq => Y.load1 Tryd.underlying3 rfl hq.mem.op2.ref2 rfl) (by decide) ?_   -- t25 := load 3 t24
    refine RH.one 3 (by kernel_rfl) ?_
    refine RS.call rfl (fun _ _ h => by cases h) Tryd.func16 rfl rfl rfl (cnum_any _ _ _ _ (ho.ext (hx7.thenExt hx9)) (flag_lt x) (by omega)) (by decide) fun v18 w10 hR10 => ?_   -- call F16(t15, t17) : 27,3
    have hS := hR10.blk hS hne
    have hne := hR10.away hB3.lt hne
    refine ⟨hS, ?_⟩
    refine RH.one 7 (by kernel_rfl) ?_
    refine RS.st rfl (St.app Tryd.underlying27 Tryd.underlying27 ai_u8 rfl rfl hR10.1 (Src.dig hS.mem.op2.ref1) (by rw [List.length_append]; omega)) (by decide) fun v22 w11 hR11 => ?_   -- call append(t18, t21) : 27,27
    have hL := hS.lt
    have hS := hR11.blk hS hne
    have hne := hR11.away hL hne
    refine ⟨hS, ?_⟩
    refine RH.one 11 (by kernel_rfl) ?_
    refine RS.call rfl (fun _ _ h => by cases h) Tryd.func16 rfl rfl rfl (cnum_any _ _ _ _ hR11.1 hn (by simp only [List.length_append, hdl]; omega)) (by decide) fun v26 w12 hR12 => ?_   -- call F16(t22, t25) : 27,3
    have hS := hR12.blk hS hne
    refine ⟨hS, ?_⟩
    refine RH.take 12 (fun _ _ _ _ h => h) (by kernel_rfl) hS rfl (by kernel_rfl) (by kernel_rfl) (fun wq hq => Y.assign rfl) (by decide) ?_   -- t0 := assign t26
    refine RH.done (by kernel_rfl) ?_
    exact ⟨_, Fr.le.cons rfl (Fr.le.cons rfl Fr.le.nil), by rw [if_neg (by simp [ht11]), if_neg (show ¬ rootB x.at_ = true from fun e => ht13 (of_decide_eq_true e)), List.append_assoc]; exact (hR10.trans (hR11.trans hR12)).extL (hx1.thenExt (hE3.thenExt (hx7.thenExt hx9))), hS⟩
  rintro u w13 hj13
  obtain ⟨hA, hB3⟩ := hj13
  have hM3 := hB3.mem
  refine CW.seq_to (X := Value) (fun u => [(0, u)]) (fun u w0 => AppB 5 w v xs w0 u (opB x)) ?_ ?_
  · skip
    refine CW.seq fun K15 hK15 => ?_
    refine CW.region ?_   -- region 11
    refine WL.val (Y.fieldAddr fo_apiOp0 rfl) (by decide) ?_   -- t46 := fieldAddr 51 t3 0
    refine WL.val (Y.load1 Tryd.underlying3 rfl hM3.op0 rfl) (by decide) ?_   -- t47 := load 3 t46
    refine WL.val (Y.eql rfl rfl) (by decide) ?_   -- t48 := binOp eql 3 t47 c(1:i64) 3
    refine WL.nil ?_
    refine hK15 _ _ ?_; try clear hK15 K15
    first | refine CW.condD rfl (fun ht16 => ?_) (fun ht16 => ?_) | refine CW.condND rfl (fun ht16 => ?_) (fun ht16 => ?_) | refine CW.condN rfl (fun ht16 => ?_) (fun ht16 => ?_) | refine CW.cond rfl (fun ht16 => ?_) (fun ht16 => ?_)
    · -- then
      refine CW.region ?_   -- region 12
      refine WL.val (Y.move rfl) (by decide) ?_   -- t49 := move t0
      refine WL.val (Y.fieldAddr fo_apiOp3 rfl) (by decide) ?_   -- t50 := fieldAddr 51 t3 3
      refine WL.val (Y.load1 Tryd.underlying5 rfl hM3.op3 rfl) (by decide) ?_   -- t51 := load 5 t50
      refine WL.st (St.buildSlice rfl (bs1 _)) (by decide) fun v52 w14 hR14 => ?_   -- t52 := buildSlice 27 1 [(0,t51)]
      obtain ⟨g, rfl, hg, hB, hx⟩ := hR14
      refine WL.st (St.app Tryd.underlying27 Tryd.underlying27 ai_u8 rfl rfl (hA.1.ext hx) (Blk.src1 hB) (by have := opB_len hn; rw [opB] at this; rw [List.length_append] at this ⊢; omega)) (by decide) fun v53 w15 hR15 => ?_   -- t53 := call append(t49, t52) : 27,27
      skip
      refine WL.val (Y.assign rfl) (by decide) ?_   -- t0 := assign t53
      refine WL.nil ?_
      exact ⟨_, Fr.le.cons rfl Fr.le.nil, by rw [opB, if_pos ht16]; exact (hA.extR hx).trans hR15⟩
    -- else
    refine CW.skip ?_
    exact ⟨_, Fr.le.cons rfl Fr.le.nil, by rw [opB, if_neg ht16, List.append_nil]; exact hA⟩
  rintro u w16 hj16
  skip
  refine CW.seq fun K17 hK17 => ?_
  refine CW.region ?_   -- region 13
  refine WL.val (Y.move rfl) (by decide) ?_   -- t54 := move t0
  refine WL.val (Y.assign rfl) (by decide) ?_   -- t4 := assign t54
  refine WL.nil ?_
  refine hK17 _ _ ?_; try clear hK17 K17
  refine CW.ret ⟨_, rfl, ?_⟩
  exact hj16
theorem encode_any (cv : Value) (cm : ComD) (w : World) (hc : Com w cv cm) : Calls Tryd.prog 6 #[cv] w (Ret fun v w' => ∃ u, v = .tuple #[u, .int .i64 (mayI cm)] ∧ AppB 5 w (.slice none 0 0) [] w' u (if mayI cm = 0 then comB cm else [])) := by
  have hc0 := hc
  obtain ⟨_, _, rfl, ⟨Ap, mp, cp, rfl, hpl, hpc, hpm, hpx⟩, ⟨Ao, mo, co, rfl, hol, hoc, hom, hox⟩, hau, hno⟩ := hc0
  unfold maxLen at hpm hom hau hno
  refine calls_of_CW 56 [2, 3] [(0, .agg (comC (.slice Ap mp cp) cm.author cm.note (.slice Ao mo co)).toArray)] Tryd.func6 rfl rfl rfl (by simp) args1 ?_
  refine CW.seq fun K1 hK1 => ?_
  refine CW.region ?_   -- region 0
  refine WL.box rfl rfl (by decide) fun g1 w1 hx1 hg1 hB1 => ?_   -- t1 := box 25 t0
  have hM1 := hB1.mem
  refine WL.val (Y.assign rfl) (by decide) ?_   -- t2 := assign c(nilslice)
  refine WL.val (Y.assign rfl) (by decide) ?_   -- t3 := assign c(0:i64)
  refine WL.nil ?_
  refine hK1 _ _ ?_; try clear hK1 K1
  refine CW.seq fun K2 hK2 => ?_
  refine CW.seq fun K3 hK3 => ?_
  refine CW.region ?_   -- region 1
  refine WL.val (Y.load Tryd.underlying25 rfl hM1 (sz_apiCommit _ _ _ _) rfl) (by decide) ?_   -- t10 := load 25 t1
  refine WL.call Tryd.func12 rfl rfl rfl ((may_any _ cm _ (hc.ext hx1))) (by simp) ?_; rintro v w2 ⟨rfl, hx2⟩; have hM1 := hM1.ext hx2; have hB1 := hB1.ext hx2   -- t11 := call F12(t10) : 25
  refine WL.val (Y.assign rfl) (by decide) ?_   -- t4 := assign t11
  refine WL.nil ?_
  refine hK3 _ _ ?_; try clear hK3 K3
  refine CW.seq fun K4 hK4 => ?_
  refine CW.region ?_   -- region 2
  refine WL.val (Y.move rfl) (by decide) ?_   -- t12 := move t4
  refine WL.val (Y.neq rfl rfl) (by decide) ?_   -- t13 := binOp neq 28 t12 c(0:i64) 28
  refine WL.nil ?_
  refine hK4 _ _ ?_; try clear hK4 K4
  first | refine CW.condD rfl (fun ht5 => ?_) (fun ht5 => ?_) | refine CW.condND rfl (fun ht5 => ?_) (fun ht5 => ?_) | refine CW.condN rfl (fun ht5 => ?_) (fun ht5 => ?_) | refine CW.cond rfl (fun ht5 => ?_) (fun ht5 => ?_)
  · -- then
    refine CW.seq fun K6 hK6 => ?_
    refine CW.region ?_   -- region 3
    refine WL.val (Y.move rfl) (by decide) ?_   -- t14 := move t4
    refine WL.val (Y.assign rfl) (by decide) ?_   -- t2 := assign c(nilslice)
    refine WL.val (Y.assign rfl) (by decide) ?_   -- t3 := assign t14
    refine WL.nil ?_
    refine hK6 _ _ ?_; try clear hK6 K6
    refine CW.ret ⟨_, rfl, ?_⟩
    exact ⟨_, rfl, by rw [if_neg ht5]; exact (AppB.refl Own.nil).extR (hx1.thenExt hx2)⟩
  -- else
  refine CW.skip ?_
  refine hK2 _ _ ?_; try clear hK2 K2
  refine CW.seq fun K7 hK7 => ?_
  refine CW.region ?_   -- region 4
  refine WL.val (Y.fieldAddr fo_apiCommit0 rfl) (by decide) ?_   -- t15 := fieldAddr 25 t1 0
  refine WL.val (Y.load1 Tryd.underlying22 rfl hM1.com0 rfl) (by decide) ?_   -- t16 := load 22 t15
  refine WL.val (Y.len_slice Tryd.underlying22 rfl) (by decide) ?_   -- t17 := call len(t16) : 22
  refine WL.call Tryd.func16 rfl rfl rfl ((cnum_any _ [] (mp : Int) _ Own.nil (by omega) (by simp))) (by simp) ?_; rintro v18 w3 hR3   -- t18 := call F16(c(nilslice), t17) : 27,3
  have hmo := mayI_ok (Decidable.not_not.1 ht5)
  have hne := hR3.away hB1.lt (by simp [Value.ownBlock])
  have hB1 := hR3.blk hB1 (by simp [Value.ownBlock])
  have hM1 := hB1.mem
  have hA := hR3.extL (hx1.thenExt hx2)
  rw [numB_nat] at hA
  have hvp := vi_len9 (n := mp) (by have := hmo.parents; omega)
  have hvo := vi_len9 (n := mo) (by have := hmo.ops; omega)
  refine WL.val (Y.assign rfl) (by decide) ?_   -- t5 := assign t18
  refine WL.nil ?_
  refine hK7 _ _ ?_; try clear hK7 K7
  refine CW.seq fun K8 hK8 => ?_
  refine CW.seq fun K9 hK9 => ?_
  refine CW.region ?_   -- region 5
  refine WL.val (Y.fieldAddr fo_apiCommit0 rfl) (by decide) ?_   -- t19 := fieldAddr 25 t1 0
  refine WL.val (Y.load1 Tryd.underlying22 rfl hM1.com0 rfl) (by decide) ?_   -- t20 := load 22 t19
  refine WL.val (Y.len_slice Tryd.underlying22 rfl) (by decide) ?_   -- t21 := call len(t20) : 22
  refine WL.val (Y.move rfl) (by decide) ?_   -- t22 := move c(0:i64)
  refine WL.nil ?_
  refine hK9 _ _ ?_; try clear hK9 K9
  refine CW.block ?_   -- block 0
  refine CW.loop (X := Nat × Value) (fun x => [(1, .pointer (some ⟨g1, 0, none⟩)), (5, x.2), (20, .slice Ap mp cp), (21, .int .i64 (mp : Int)), (22, .int .i64 (x.1 : Int))]) (fun x w0 => x.1 ≤ mp ∧ AppB 5 w (.slice none 0 0) [] w0 x.2 (vi mp ++ ((cm.parents.take x.1).map (·.1)).flatten) ∧ Blk w0 g1 25 (comC (.slice Ap mp cp) cm.author cm.note (.slice Ao mo co)) ∧ x.2.ownBlock ≠ some g1) (fun x => mp - x.1) (0, v18) (by repeat (first | exact Fr.le.nil | refine Fr.le.cons rfl ?_)) ⟨Nat.zero_le _, by simpa using hA, hB1, hne⟩ ?_
  intro x w4 hl4
  obtain ⟨i, u⟩ := x
  dsimp only at hl4 ⊢
  clear hA hB1 hM1 hne
  obtain ⟨hi, hA, hB1, hne⟩ := hl4
  have hL4 := hA.nilExt
  have hM1 := hB1.mem
  have hfl : ((cm.parents.take i).map (·.1)).flatten.length ≤ (cm.parents.take i).length * 32 := flat_len (fun x _ => Nat.le_of_eq x.2)
  have htl : (cm.parents.take i).length ≤ 8 := by rw [List.length_take]; have := hmo.parents; omega
  refine CW.seq fun K10 hK10 => ?_
  refine CW.region ?_   -- region 6
  refine WL.val (Y.lss rfl rfl) (by decide) ?_   -- t23 := binOp lss 3 t22 t21 3
  refine WL.nil ?_
  refine hK10 _ _ ?_; try clear hK10 K10
  refine CW.seq fun K11 hK11 => ?_
  first | refine CW.condD rfl (fun ht12 => ?_) (fun ht12 => ?_) | refine CW.condND rfl (fun ht12 => ?_) (fun ht12 => ?_) | refine CW.condN rfl (fun ht12 => ?_) (fun ht12 => ?_) | refine CW.cond rfl (fun ht12 => ?_) (fun ht12 => ?_)
  · -- then
    refine CW.skip ?_
    refine hK11 _ _ ?_; try clear hK11 K11
    refine CW.seq fun K13 hK13 => ?_
    refine CW.block ?_   -- block 1
    refine CW.seq fun K14 hK14 => ?_
    refine CW.region ?_   -- region 7
    obtain ⟨d, hd⟩ : ∃ d, cm.parents[i]? = some d := ⟨_, List.getElem?_eq_getElem (by omega)⟩
    obtain ⟨ad, rfl, hmd⟩ := hpx _ d hd
    refine WL.val (Y.indexAddrN Tryd.underlying22 rfl rfl sz0_apiDigest (by omega)) (by decide) ?_   -- t24 := indexAddr 22 t20 t22
    refine WL.val (Y.load Tryd.underlying34 rfl (hmd.ext hL4) (sz_apiDigest _) rfl) (by decide) ?_   -- t25 := load 34 t24
    refine as_apiDigest rfl (by simp) (by decide) fun g7 w5 hx5 hg7 hB7 => ?_   -- alloc 34; store 34 t7 t25
    have hM7 := hB7.mem; have hM1 := hM1.ext hx5; have hB1 := hB1.ext hx5
    refine WL.nil ?_
    refine hK14 _ _ ?_; try clear hK14 K14
    refine CW.region ?_   -- region 8
    refine WL.val (Y.move rfl) (by decide) ?_   -- t26 := move t5
    refine WL.val (Y.slice_arr Tryd.underlying34 rfl sz_uint8) (by decide) ?_   -- t27 := slice 34 t7 none none none
    refine WL.st (St.app Tryd.underlying27 Tryd.underlying27 ai_u8 rfl rfl (hA.1.ext hx5) (Src.dig hM7) (by simp only [List.length_append, List.nil_append]; omega)) (by decide) fun v28 w6 hR6 => ?_   -- t28 := call append(t26, t27) : 27,27
    have hA2 := hA.trans (hR6.extL hx5)
    have hne2 := hR6.away hB1.lt hne
    have hB2 := hR6.blk hB1 hne
    refine WL.val (Y.assign rfl) (by decide) ?_   -- t5 := assign t28
    refine WL.nil ?_
    refine hK13 _ _ ?_; try clear hK13 K13
    refine CW.region ?_   -- region 9
    refine WL.val (Y.add rfl rfl ⟨by omega, by omega⟩) (by decide) ?_   -- t29 := binOp add 3 t22 c(1:i64) 3
    refine WL.val (Y.move rfl) (by decide) ?_   -- t22 := move t29
    refine WL.nil ?_
    refine ⟨(i + 1, _), by show mp - (i + 1) < mp - i; omega, (by repeat (first | exact Fr.le.nil | refine Fr.le.cons rfl ?_)), by show i + 1 ≤ mp; omega, ?_, hB2, hne2⟩
    show AppB _ _ _ _ _ _ (_ ++ ((cm.parents.take (i+1)).map (·.1)).flatten)
    rw [flat_take_succ hd, ← List.append_assoc]
    exact hA2
  -- else
  refine CW.exit ?_   -- exit 0
  refine hK8 _ _ ?_; try clear hK8 K8
  refine CW.seq fun K15 hK15 => ?_
  refine CW.held (fun wq => Blk wq g1 25 (comC (.slice Ap mp cp) cm.author cm.note (.slice Ao mo co))) (by kernel_rfl) 10 rfl fun w7 hx7 => ?_; have hM1 := hM1.ext hx7; have hB1 := hB1.ext hx7
  have hS : Blk w7 g1 25 (comC (.slice Ap mp cp) cm.author cm.note (.slice Ao mo co)) := hB1
  rw [List.take_of_length_le (by omega)] at hA hfl
  have hA := hA.extR hx7
  have hna := hmo.name
  have hnn := hmo.note
  have hpp := hmo.parents
  have hta : (textB cm.author.toList).length ≤ 33 := by have := vi_len9 (n := cm.author.size) (by omega); rw [textB, List.length_append, toList_length]; omega
  have htn : (textB cm.note.toList).length ≤ 209 := by have := vi_len9 (n := cm.note.size) (by omega); rw [textB, List.length_append, toList_length]; omega
  refine RH.take 0 (fun _ _ _ _ h => h) (by kernel_rfl) hS rfl (by kernel_rfl) (by kernel_rfl) (fun wq hq => Y.move rfl) (by decide) ?_   -- t30 := move t5
  refine RH.take 1 (fun _ _ _ _ h => h) (by kernel_rfl) hS rfl (by kernel_rfl) (by kernel_rfl) (fun wq hq => Y.fieldAddr fo_apiCommit1 rfl) (by decide) ?_   -- t31 := fieldAddr 25 t1 1
  refine RH.take 2 (fun _ _ _ _ h => h) (by kernel_rfl) hS rfl (by kernel_rfl) (by kernel_rfl) (fun wq hq => Y.load1 Tryd.underlying9 rfl hq.mem.com1 rfl) (by decide) ?_   -- t32 := load 9 t31
  refine RH.take 5 (fun _ _ _ _ h => h) (by kernel_rfl) hS rfl (by kernel_rfl) (by kernel_rfl) (fun wq hq => Y.fieldAddr fo_apiCommit2 rfl) (by decide) ?_   -- t35 := fieldAddr 25 t1 2
  refine RH.take 6 (fun _ _ _ _ h => h) (by kernel_rfl) hS rfl (by kernel_rfl) (by kernel_rfl) (fun wq hq => Y.load1 Tryd.underlying9 rfl hq.mem.com2 rfl) (by decide) ?_   -- t36 := load 9 t35
  refine RH.one 3 (by kernel_rfl) ?_
  refine RS.call rfl (fun _ _ h => by cases h) Tryd.func17 rfl rfl rfl ((text_any _ _ (by omega))) (by decide) fun v33 w8 hR8 => ?_   -- call F17(t32) : 9
  have hx8 := hR8.nilExt
  have hS := hS.ext hx8
  have hA := hA.extR hx8
  refine ⟨hS, ?_⟩
  refine RH.one 4 (by kernel_rfl) ?_
  refine RS.st rfl (St.app Tryd.underlying27 Tryd.underlying27 ai_u8 rfl rfl hA.1 (Src.own hR8.nilOwn) (by simp only [List.length_append, List.nil_append]; omega)) (by decide) fun v34 w9 hR9 => ?_   -- call append(t30, t33) : 27,27
  have hne9 := hR9.away hS.lt hne
  have hS := hR9.blk hS hne
  have hA := hA.trans hR9
  refine ⟨hS, ?_⟩
  refine RH.one 7 (by kernel_rfl) ?_
  refine RS.call rfl (fun _ _ h => by cases h) Tryd.func17 rfl rfl rfl ((text_any _ _ (by omega))) (by decide) fun v37 w10 hR10 => ?_   -- call F17(t36) : 9
  have hx10 := hR10.nilExt
  have hS := hS.ext hx10
  have hA := hA.extR hx10
  refine ⟨hS, ?_⟩
  refine RH.one 8 (by kernel_rfl) ?_
  refine RS.st rfl (St.app Tryd.underlying27 Tryd.underlying27 ai_u8 rfl rfl hA.1 (Src.own hR10.nilOwn) (by simp only [List.length_append, List.nil_append]; omega)) (by decide) fun v38 w11 hR11 => ?_   -- call append(t34, t37) : 27,27
  have hne11 := hR11.away hS.lt hne9
  have hS := hR11.blk hS hne9
  have hA := hA.trans hR11
  have hB1 := hS
  have hM1 := hB1.mem
  refine ⟨hS, ?_⟩
  refine RH.take 9 (fun _ _ _ _ h => h) (by kernel_rfl) hS rfl (by kernel_rfl) (by kernel_rfl) (fun wq hq => Y.assign rfl) (by decide) ?_   -- t5 := assign t38
  refine RH.done (by kernel_rfl) ?_
  refine hK15 _ _ ?_; try clear hK15 K15
  refine CW.seq fun K16 hK16 => ?_
  refine CW.region ?_   -- region 11
  refine WL.val (Y.move rfl) (by decide) ?_   -- t39 := move t5
  refine WL.val (Y.fieldAddr fo_apiCommit3 rfl) (by decide) ?_   -- t40 := fieldAddr 25 t1 3
  refine WL.val (Y.load1 Tryd.underlying23 rfl hM1.com3 rfl) (by decide) ?_   -- t41 := load 23 t40
  refine WL.val (Y.len_slice Tryd.underlying23 rfl) (by decide) ?_   -- t42 := call len(t41) : 23
  refine WL.call Tryd.func16 rfl rfl rfl ((cnum_any _ _ (mo : Int) _ hA.1 (by omega) (by simp only [List.length_append, List.nil_append]; omega))) (by simp) ?_; rintro v43 w12 hR12   -- t43 := call F16(t39, t42) : 27,3
  have hne2 := hR12.away hB1.lt hne11
  have hB1 := hR12.blk hB1 hne11
  have hM1 := hB1.mem
  have hA := hA.trans hR12
  rw [numB_nat] at hA
  have hPl : (vi mp ++ (cm.parents.map (·.1)).flatten ++ textB cm.author.toList ++ textB cm.note.toList ++ vi mo).length ≤ 600 := by simp only [List.length_append]; omega
  generalize hPre : vi mp ++ (cm.parents.map (·.1)).flatten ++ textB cm.author.toList ++ textB cm.note.toList ++ vi mo = pre at hA hPl
  refine WL.val (Y.assign rfl) (by decide) ?_   -- t5 := assign t43
  refine WL.nil ?_
  refine hK16 _ _ ?_; try clear hK16 K16
  refine CW.seq fun K17 hK17 => ?_
  refine CW.seq fun K18 hK18 => ?_
  refine CW.region ?_   -- region 12
  refine WL.val (Y.fieldAddr fo_apiCommit3 rfl) (by decide) ?_   -- t44 := fieldAddr 25 t1 3
  refine WL.val (Y.load1 Tryd.underlying23 rfl hM1.com3 rfl) (by decide) ?_   -- t45 := load 23 t44
  refine WL.val (Y.len_slice Tryd.underlying23 rfl) (by decide) ?_   -- t46 := call len(t45) : 23
  refine WL.val (Y.move rfl) (by decide) ?_   -- t47 := move c(0:i64)
  refine WL.nil ?_
  refine hK18 _ _ ?_; try clear hK18 K18
  refine CW.block ?_   -- block 2
  refine CW.loop (X := Nat × Value) (fun x => [(1, .pointer (some ⟨g1, 0, none⟩)), (5, x.2), (45, .slice Ao mo co), (46, .int .i64 (mo : Int)), (47, .int .i64 (x.1 : Int))]) (fun x w0 => x.1 ≤ mo ∧ AppB 5 w (.slice none 0 0) [] w0 x.2 (pre ++ ((cm.ops.take x.1).map opB).flatten) ∧ Blk w0 g1 25 (comC (.slice Ap mp cp) cm.author cm.note (.slice Ao mo co)) ∧ x.2.ownBlock ≠ some g1) (fun x => mo - x.1) (0, v43) (by repeat (first | exact Fr.le.nil | refine Fr.le.cons rfl ?_)) ⟨Nat.zero_le _, by simpa using hA, hB1, hne2⟩ ?_
  intro x w13 hl13
  clear hA hB1 hM1 hne2 hi
  obtain ⟨i, u⟩ := x
  dsimp only at hl13 ⊢
  obtain ⟨hi, hA, hB1, hne⟩ := hl13
  have hL13 := hA.nilExt
  have hM1 := hB1.mem
  have hfl : ((cm.ops.take i).map opB).flatten.length ≤ (cm.ops.take i).length * 51 := flat_len (fun x hx => opB_len (by have := hmo.n (List.mem_of_mem_take hx); omega))
  have htl : (cm.ops.take i).length ≤ 2000 := by rw [List.length_take]; have := hmo.ops; omega
  refine CW.seq fun K19 hK19 => ?_
  refine CW.region ?_   -- region 13
  refine WL.val (Y.lss rfl rfl) (by decide) ?_   -- t48 := binOp lss 3 t47 t46 3
  refine WL.nil ?_
  refine hK19 _ _ ?_; try clear hK19 K19
  refine CW.seq fun K20 hK20 => ?_
  first | refine CW.condD rfl (fun ht21 => ?_) (fun ht21 => ?_) | refine CW.condND rfl (fun ht21 => ?_) (fun ht21 => ?_) | refine CW.condN rfl (fun ht21 => ?_) (fun ht21 => ?_) | refine CW.cond rfl (fun ht21 => ?_) (fun ht21 => ?_)
  · -- then
    refine CW.skip ?_
    refine hK20 _ _ ?_; try clear hK20 K20
    refine CW.seq fun K22 hK22 => ?_
    refine CW.block ?_   -- block 3
    refine CW.seq fun K23 hK23 => ?_
    refine CW.region ?_   -- region 14
    obtain ⟨y, hy⟩ : ∃ y, cm.ops[i]? = some y := ⟨_, List.getElem?_eq_getElem (by omega)⟩
    obtain ⟨ad, rfl, hmd⟩ := hox _ y hy
    refine WL.val (Y.indexAddrN Tryd.underlying23 rfl rfl sz0_apiOp (by omega)) (by decide) ?_   -- t49 := indexAddr 23 t45 t47
    refine WL.val (Y.load Tryd.underlying51 rfl (hmd.ext hL13) (sz_apiOp _) rfl) (by decide) ?_   -- t50 := load 51 t49
    refine as_apiOp rfl (by simp) (by decide) fun g9 w14 hx14 hg9 hB9 => ?_   -- alloc 51; store 51 t9 t50
    have hM9 := hB9.mem; have hM1 := hM1.ext hx14; have hB1 := hB1.ext hx14
    refine WL.nil ?_
    refine hK23 _ _ ?_; try clear hK23 K23
    refine CW.region ?_   -- region 15
    refine WL.val (Y.move rfl) (by decide) ?_   -- t51 := move t5
    refine WL.val (Y.load Tryd.underlying51 rfl hM9 (sz_apiOp _) rfl) (by decide) ?_   -- t52 := load 51 t9
    refine WL.call Tryd.func18 rfl rfl rfl ((cop_any _ _ y _ (hA.1.ext hx14) (by have := hmo.n (List.mem_of_getElem? hy); omega) (by simp only [List.length_append, List.nil_append]; omega))) (by simp) ?_; rintro v53 w15 hR15   -- t53 := call F18(t51, t52) : 27,51
    have hA2 := hA.trans (hR15.extL hx14)
    have hne2 := hR15.away hB1.lt hne
    have hB2 := hR15.blk hB1 hne
    refine WL.val (Y.assign rfl) (by decide) ?_   -- t5 := assign t53
    refine WL.nil ?_
    refine hK22 _ _ ?_; try clear hK22 K22
    refine CW.region ?_   -- region 16
    refine WL.val (Y.add rfl rfl ⟨by omega, by omega⟩) (by decide) ?_   -- t54 := binOp add 3 t47 c(1:i64) 3
    refine WL.val (Y.move rfl) (by decide) ?_   -- t47 := move t54
    refine WL.nil ?_
    refine ⟨(i + 1, _), by show mo - (i + 1) < mo - i; omega, (by repeat (first | exact Fr.le.nil | refine Fr.le.cons rfl ?_)), by show i + 1 ≤ mo; omega, ?_, hB2, hne2⟩
    show AppB _ _ _ _ _ _ (_ ++ ((cm.ops.take (i+1)).map opB).flatten)
    rw [flat_take_succ hy, ← List.append_assoc]
    exact hA2
  -- else
  refine CW.exit ?_   -- exit 2
  refine hK17 _ _ ?_; try clear hK17 K17
  refine CW.seq fun K24 hK24 => ?_
  refine CW.region ?_   -- region 17
  refine WL.val (Y.move rfl) (by decide) ?_   -- t55 := move t5
  refine WL.val (Y.assign rfl) (by decide) ?_   -- t2 := assign t55
  refine WL.val (Y.assign rfl) (by decide) ?_   -- t3 := assign c(0:i64)
  refine WL.nil ?_
  refine hK24 _ _ ?_; try clear hK24 K24
  refine CW.ret ⟨_, rfl, ?_⟩
  have h0 := mayOk_i hmo
  rw [List.take_of_length_le (by omega)] at hA
  refine ⟨_, by rw [h0], ?_⟩
  rw [if_pos h0, comB, hpl, hol, hPre]
  exact hA
end Go.Proofs.YtfbagecopapfhaaDoor
