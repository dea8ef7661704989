/- A commit's bytes: wire.put, wire.Num, wire.Text, commit.num, commit.op, commit.Encode, walked. No condition. -/
import Derived.Test.YtoncdfpohdchgaaDoorAp
import Derived.Test.YtoncdfpohdchgaaDoorPe
import Derived.Test.YtoncdfpohdchgaaDoorMy
set_option linter.unusedSimpArgs false
set_option linter.unusedVariables false
namespace Go.Proofs.YtoncdfpohdchgaaDoor
open Go.RowKit Go.Fw Go.Pl
theorem u8_or (n : Nat) : IntKind.u8.wrap ((BitVec.ofInt IntKind.u8.bits (IntKind.u8.wrap (n : Int)) ||| BitVec.ofInt IntKind.u8.bits 128).toNat : Int) = ((UInt8.ofNat (n % 128 + 128)).toNat : Int) := by
  rw [show IntKind.u8.wrap (n : Int) = (((n % 256 : Nat)) : Int) by simp [IntKind.wrap, IntKind.bits, IntKind.signed]]
  have h : ∀ m, m < 256 → IntKind.u8.wrap ((BitVec.ofInt IntKind.u8.bits ((m : Nat) : Int) ||| BitVec.ofInt IntKind.u8.bits 128).toNat : Int) = ((UInt8.ofNat (m % 128 + 128)).toNat : Int) := by decide +kernel
  rw [h (n % 256) (by omega), Nat.mod_mod_of_dvd _ (by decide)]
theorem shr7 (n : Nat) : ((n : Int)).fdiv (2 ^ (min (7 : Int).toNat IntKind.i64.bits)) = ((n / 128 : Nat) : Int) := by
  show ((n : Int)).fdiv 128 = _
  rw [Int.fdiv_eq_ediv_of_nonneg _ (by decide)]
  rfl
theorem or_1 : IntKind.i64.wrap ((BitVec.ofInt IntKind.i64.bits 0 ||| BitVec.ofInt IntKind.i64.bits 1).toNat : Int) = 1 := by decide
theorem or_2 (c : Prop) [Decidable c] : IntKind.i64.wrap ((BitVec.ofInt IntKind.i64.bits (if c then 1 else 0) ||| BitVec.ofInt IntKind.i64.bits 2).toNat : Int) = (if c then 1 else 0) + 2 := by by_cases h : c <;> simp only [h, if_true, if_false] <;> decide
theorem or_4 (c d : Prop) [Decidable c] [Decidable d] : IntKind.i64.wrap ((BitVec.ofInt IntKind.i64.bits ((if c then 1 else 0) + (if d then 2 else 0)) ||| BitVec.ofInt IntKind.i64.bits 4).toNat : Int) = (if c then 1 else 0) + (if d then 2 else 0) + 4 := by by_cases h : c <;> by_cases h' : d <;> simp only [h, h', if_true, if_false] <;> decide
theorem or_8 (c d : Prop) [Decidable c] [Decidable d] : IntKind.i64.wrap ((BitVec.ofInt IntKind.i64.bits ((if c then 1 else 0) + (if d then 2 else 0)) ||| BitVec.ofInt IntKind.i64.bits 8).toNat : Int) = (if c then 1 else 0) + (if d then 2 else 0) + 8 := by by_cases h : c <;> by_cases h' : d <;> simp only [h, h', if_true, if_false] <;> decide
theorem or_own {x : OpD} (h : x.at_.own = true) : IntKind.i64.wrap ((BitVec.ofInt IntKind.i64.bits ((if x.kind = 2 then 1 else 0) + (if x.left = true then 2 else 0)) ||| BitVec.ofInt IntKind.i64.bits 4).toNat : Int) = flagI x := by rw [or_4, flagI, if_pos h]
theorem or_far {x : OpD} (h : x.at_.own = false) (h' : rootB x.at_ = false) : IntKind.i64.wrap ((BitVec.ofInt IntKind.i64.bits ((if x.kind = 2 then 1 else 0) + (if x.left = true then 2 else 0)) ||| BitVec.ofInt IntKind.i64.bits 8).toNat : Int) = flagI x := by rw [or_8, flagI, h, h']; rfl
theorem or_root {x : OpD} (h : x.at_.own = false) (h' : rootB x.at_ = true) : (if x.kind = 2 then 1 else 0) + (if x.left = true then 2 else 0) = flagI x := by rw [flagI, h, h']; exact (Int.add_zero _).symm
theorem flag_lt (x : OpD) : flagI x < 9223372036854775808 := by have := flagI_range x; omega
theorem flag_len (x : OpD) : (numB (flagI x)).length ≤ 9 := numB_len (flag_lt x)

theorem put_any (v : Value) (xs : List UInt8) (n : Nat) (w : World) (ho : Own w 5 1 v (bytesC xs)) (hr : xs.length + (vi n).length ≤ 140737488355328) : Calls Tryd.prog 46 #[v, .int .i64 (n : Int)] w (Ret fun v' w' => AppB 5 w v xs w' v' (vi n)) := by
  refine calls_of_CW 20 [4] [(0, v), (1, .int .i64 (n : Int))] Tryd.func46 rfl rfl rfl (by simp) args2 ?_
  refine CW.seq fun K1 hK1 => ?_
  refine CW.region ?_   -- region 0
  refine WL.val (Y.assign rfl) (by decide) ?_   -- t4 := assign c(nilslice)
  refine WL.nil ?_
  refine hK1 _ _ ?_; try clear hK1 K1
  refine CW.seq fun K2 hK2 => ?_
  refine CW.block ?_   -- block 0
  refine CW.loop (X := Nat × List UInt8 × Value) (fun x => [(0, x.2.2), (1, .int .i64 (x.1 : Int))]) (fun x w0 => AppB 5 w v xs w0 x.2.2 x.2.1 ∧ x.2.1 ++ vi x.1 = vi n) (fun x => x.1) (n, [], v) (Fr.le.cons rfl (Fr.le.cons rfl Fr.le.nil)) ⟨AppB.refl ho, rfl⟩ ?_
  intro x w1 hl1
  obtain ⟨n1, pre, v1⟩ := x
  dsimp only at hl1 ⊢
  obtain ⟨hA, hvi⟩ := hl1
  have hlen := congrArg List.length hvi
  simp only [List.length_append] at hlen
  try simp only [] at hlen hvi
  refine CW.seq fun K3 hK3 => ?_
  refine CW.seq fun K4 hK4 => ?_
  refine CW.region ?_   -- region 1
  refine WL.val (Y.move rfl) (by decide) ?_   -- t5 := move t1
  refine WL.val (Y.geq rfl rfl) (by decide) ?_   -- t6 := binOp geq 3 t5 c(128:i64) 3
  refine WL.nil ?_
  refine hK4 _ _ ?_; try clear hK4 K4
  first | refine CW.condD rfl (fun ht5 => ?_) (fun ht5 => ?_) | refine CW.condND rfl (fun ht5 => ?_) (fun ht5 => ?_) | refine CW.condN rfl (fun ht5 => ?_) (fun ht5 => ?_) | refine CW.cond rfl (fun ht5 => ?_) (fun ht5 => ?_)
  · -- then
    refine CW.skip ?_
    refine hK3 _ _ ?_; try clear hK3 K3
    refine CW.seq fun K6 hK6 => ?_
    refine CW.block ?_   -- block 1
    refine CW.region ?_   -- region 3
    refine WL.val (Y.move rfl) (by decide) ?_   -- t9 := move t0
    refine WL.val (Y.move rfl) (by decide) ?_   -- t10 := move t1
    refine WL.val (Y.conv_int Tryd.underlying3 Tryd.underlying5 rfl) (by decide) ?_   -- t11 := convert 3 5 t10
    refine WL.val (Y.or_k rfl rfl ((u8_or n1))) (by decide) ?_   -- t12 := binOp or 5 t11 c(128:u8) 5
    refine WL.st (St.buildSlice rfl (bs1 _)) (by decide) fun v13 w2 hR2 => ?_   -- t13 := buildSlice 33 1 [(0,t12)]
    obtain ⟨g, rfl, hg, hB, hx⟩ := hR2
    refine WL.st (St.app Tryd.underlying33 Tryd.underlying33 ai_u8 rfl rfl ((hA.extR hx).1) (Blk.src1 hB) (by rw [vi_ge (n := n1) (by omega)] at hlen; simp only [List.length_append, List.length_cons] at hlen ⊢; omega)) (by decide) fun v14 w3 hR3 => ?_   -- t14 := call append(t9, t13) : 33,33
    have hA2 := (hA.extR hx).trans hR3
    refine WL.val (Y.assign rfl) (by decide) ?_   -- t0 := assign t14
    refine WL.nil ?_
    refine hK6 _ _ ?_; try clear hK6 K6
    refine CW.region ?_   -- region 2
    refine WL.val (Y.move rfl) (by decide) ?_   -- t7 := move t1
    refine WL.val (Y.shr rfl rfl (by decide) (shr7 n1)) (by decide) ?_   -- t8 := binOp shr 3 t7 c(7:u64) 105
    refine WL.val (Y.assign rfl) (by decide) ?_   -- t1 := assign t8
    refine WL.nil ?_
    refine ⟨(n1 / 128, pre ++ [UInt8.ofNat (n1 % 128 + 128)], _), by show n1 / 128 < n1; omega, (Fr.le.cons rfl (Fr.le.cons rfl Fr.le.nil)), hA2, ?_⟩
    rw [← hvi, vi_ge (n := n1) (by omega)]
    simp
  -- else
  refine CW.exit ?_   -- exit 0
  refine hK2 _ _ ?_; try clear hK2 K2
  refine CW.seq fun K7 hK7 => ?_
  refine CW.region ?_   -- region 4
  refine WL.val (Y.move rfl) (by decide) ?_   -- t15 := move t0
  refine WL.val (Y.move rfl) (by decide) ?_   -- t16 := move t1
  refine WL.val (Y.conv_int Tryd.underlying3 Tryd.underlying5 rfl) (by decide) ?_   -- t17 := convert 3 5 t16
  refine WL.st (St.buildSlice rfl (bs1 _)) (by decide) fun v18 w4 hR4 => ?_   -- t18 := buildSlice 33 1 [(0,t17)]
  obtain ⟨g, rfl, hg, hB, hx⟩ := hR4
  refine WL.st (St.app Tryd.underlying33 Tryd.underlying33 ai_u8 rfl rfl ((hA.extR hx).1) (Blk.src1 (by rw [← u8_of]; exact hB)) (by rw [vi_lt (n := n1) (by omega)] at hlen; simp only [List.length_append, List.length_cons, List.length_nil] at hlen ⊢; omega)) (by decide) fun v19 w5 hR5 => ?_   -- t19 := call append(t15, t18) : 33,33
  have hA2 := (hA.extR hx).trans hR5
  refine WL.val (Y.assign rfl) (by decide) ?_   -- t4 := assign t19
  refine WL.nil ?_
  refine hK7 _ _ ?_; try clear hK7 K7
  refine CW.ret ⟨_, rfl, ?_⟩
  rw [← hvi, vi_lt (n := n1) (by omega)]
  exact hA2
theorem num_any (n : Int) (w : World) (hn : n < 9223372036854775808) : Calls Tryd.prog 41 #[.int .i64 n] w (Ret fun v w' => ∃ u, v = .tuple #[u, .int .i64 (if n < 0 then 9 else 0)] ∧ AppB 5 w (.slice none 0 0) [] w' u (numB n)) := by
  refine calls_of_CW 8 [2, 3] [(0, .int .i64 n)] Tryd.func41 rfl rfl rfl (by simp) args1 ?_
  refine CW.seq fun K1 hK1 => ?_
  refine CW.region ?_   -- region 0
  refine WL.val (Y.assign rfl) (by decide) ?_   -- t2 := assign c(nilslice)
  refine WL.val (Y.assign rfl) (by decide) ?_   -- t3 := assign c(0:i64)
  refine WL.nil ?_
  refine hK1 _ _ ?_; try clear hK1 K1
  refine CW.seq fun K2 hK2 => ?_
  refine CW.seq fun K3 hK3 => ?_
  refine CW.region ?_   -- region 1
  refine WL.val (Y.move rfl) (by decide) ?_   -- t4 := move t0
  refine WL.val (Y.lss rfl rfl) (by decide) ?_   -- t5 := binOp lss 3 t4 c(0:i64) 3
  refine WL.nil ?_
  refine hK3 _ _ ?_; try clear hK3 K3
  first | refine CW.condD rfl (fun ht4 => ?_) (fun ht4 => ?_) | refine CW.condND rfl (fun ht4 => ?_) (fun ht4 => ?_) | refine CW.condN rfl (fun ht4 => ?_) (fun ht4 => ?_) | refine CW.cond rfl (fun ht4 => ?_) (fun ht4 => ?_)
  · -- then
    refine CW.seq fun K5 hK5 => ?_
    refine CW.region ?_   -- region 2
    refine WL.val (Y.assign rfl) (by decide) ?_   -- t2 := assign c(nilslice)
    refine WL.val (Y.assign rfl) (by decide) ?_   -- t3 := assign c(9:i64)
    refine WL.nil ?_
    refine hK5 _ _ ?_; try clear hK5 K5
    refine CW.ret ⟨_, rfl, ?_⟩
    exact ⟨_, by rw [if_pos ht4], by rw [numB, if_pos ht4]; exact AppB.refl Own.nil⟩
  -- else
  refine CW.skip ?_
  refine hK2 _ _ ?_; try clear hK2 K2
  refine CW.seq fun K6 hK6 => ?_
  refine CW.region ?_   -- region 3
  refine WL.val (Y.move rfl) (by decide) ?_   -- t6 := move t0
  refine WL.call Tryd.func46 rfl rfl rfl ((by rw [← Int.toNat_of_nonneg (Int.not_lt.1 ht4)]; exact put_any _ [] _ _ Own.nil (by have := vi_len9 (n := n.toNat) (by omega); simp; omega))) (by simp) ?_; rintro v7 w1 hR1   -- t7 := call F46(c(nilslice), t6) : 33,3
  skip
  refine WL.val (Y.assign rfl) (by decide) ?_   -- t2 := assign t7
  refine WL.val (Y.assign rfl) (by decide) ?_   -- t3 := assign c(0:i64)
  refine WL.nil ?_
  refine hK6 _ _ ?_; try clear hK6 K6
  refine CW.ret ⟨_, rfl, ?_⟩
  exact ⟨_, by rw [if_neg ht4], by rw [numB, if_neg ht4]; exact hR1⟩
theorem text_any (s : ByteArray) (w : World) (hs : s.size ≤ 140737488355300) : Calls Tryd.prog 26 #[.string s] w (Ret fun v w' => AppB 5 w (.slice none 0 0) [] w' v (textB s.toList)) := by
  have h9 := vi_len9 (n := s.size) (by omega)
  refine calls_of_CW 8 [2] [(0, .string s)] Tryd.func26 rfl rfl rfl (by simp) args1 ?_
  refine CW.seq fun K1 hK1 => ?_
  refine CW.region ?_   -- region 0
  refine WL.val (Y.assign rfl) (by decide) ?_   -- t2 := assign c(nilslice)
  refine WL.nil ?_
  refine hK1 _ _ ?_; try clear hK1 K1
  refine CW.seq fun K2 hK2 => ?_
  refine CW.region ?_   -- region 1
  refine WL.val (Y.move rfl) (by decide) ?_   -- t3 := move t0
  refine WL.val (Y.len_string Tryd.underlying9 rfl) (by decide) ?_   -- t4 := call len(t3) : 9
  refine WL.call Tryd.func46 rfl rfl rfl ((put_any _ [] s.size _ Own.nil (by simp; omega))) (by simp) ?_; rintro v5 w1 hR1   -- t5 := call F46(c(nilslice), t4) : 33,3
  skip
  refine WL.val (Y.move rfl) (by decide) ?_   -- t6 := move t0
  refine WL.st (St.appS Tryd.underlying33 Tryd.underlying9 ai_u8 rfl rfl hR1.1 (by simp; omega)) (by decide) fun v7 w2 hR2 => ?_   -- t7 := call append(t5, t6) : 33,9
  skip
  refine WL.val (Y.assign rfl) (by decide) ?_   -- t2 := assign t7
  refine WL.nil ?_
  refine hK2 _ _ ?_; try clear hK2 K2
  refine CW.ret ⟨_, rfl, ?_⟩
  unfold textB
  rw [toList_length]
  exact hR1.trans hR2
end Go.Proofs.YtoncdfpohdchgaaDoor
