/- Parts of a proof: what its last text leans on. No condition. -/
import Derived.Great.BuildSlice
import Derived.WideLaws
import Derived.Lib.SlBytesConst
import Derived.Test.YtjbeooimhoilmaaDoorK03
import Derived.Test.YtjbeooimhoilmaaDoorK04
import Derived.Test.YtjbeooimhoilmaaDoorK05
set_option linter.unusedSimpArgs false
set_option linter.unusedVariables false
/- A commit's bytes: wire.put, wire.Num, wire.Text, commit.num, commit.op, commit.Encode, walked. No condition. -/
namespace Go.Proofs.YtjbeooimhoilmaaDoor
open Go.RowKit Go.Fw Go.Pl
theorem u8_or (n : Nat) : IntKind.u8.wrap ((BitVec.ofInt IntKind.u8.bits (IntKind.u8.wrap (n : Int)) ||| BitVec.ofInt IntKind.u8.bits 128).toNat : Int) = ((UInt8.ofNat (n % 128 + 128)).toNat : Int) := by
  rw [show IntKind.u8.wrap (n : Int) = (((n % 256 : Nat)) : Int) by simp [IntKind.wrap, IntKind.bits, IntKind.signed]]
  have h : ∀ m, m < 256 → IntKind.u8.wrap ((BitVec.ofInt IntKind.u8.bits ((m : Nat) : Int) ||| BitVec.ofInt IntKind.u8.bits 128).toNat : Int) = ((UInt8.ofNat (m % 128 + 128)).toNat : Int) := by decide +kernel
  rw [h (n % 256) (by omega), Nat.mod_mod_of_dvd _ (by decide)]
theorem shr7 (n : Nat) : ((n : Int)).fdiv (2 ^ (min (7 : Int).toNat IntKind.i64.bits)) = ((n / 128 : Nat) : Int) := by
  show ((n : Int)).fdiv 128 = _
  rw [Int.fdiv_eq_ediv_of_nonneg _ (by decide)]
  rfl
theorem or_1 : IntKind.i64.wrap ((BitVec.ofInt IntKind.i64.bits 0 ||| BitVec.ofInt IntKind.i64.bits 1).toNat : Int) = 1 := by decide
theorem or_2 (c : Prop) [Decidable c] : IntKind.i64.wrap ((BitVec.ofInt IntKind.i64.bits (if c then 1 else 0) ||| BitVec.ofInt IntKind.i64.bits 2).toNat : Int) = (if c then 1 else 0) + 2 := by by_cases h : c <;> simp only [h, if_true, if_false] <;> decide
theorem or_4 (c d : Prop) [Decidable c] [Decidable d] : IntKind.i64.wrap ((BitVec.ofInt IntKind.i64.bits ((if c then 1 else 0) + (if d then 2 else 0)) ||| BitVec.ofInt IntKind.i64.bits 4).toNat : Int) = (if c then 1 else 0) + (if d then 2 else 0) + 4 := by by_cases h : c <;> by_cases h' : d <;> simp only [h, h', if_true, if_false] <;> decide
theorem or_8 (c d : Prop) [Decidable c] [Decidable d] : IntKind.i64.wrap ((BitVec.ofInt IntKind.i64.bits ((if c then 1 else 0) + (if d then 2 else 0)) ||| BitVec.ofInt IntKind.i64.bits 8).toNat : Int) = (if c then 1 else 0) + (if d then 2 else 0) + 8 := by by_cases h : c <;> by_cases h' : d <;> simp only [h, h', if_true, if_false] <;> decide
theorem or_own {x : OpD} (h : x.at_.own = true) : IntKind.i64.wrap ((BitVec.ofInt IntKind.i64.bits ((if x.kind = 2 then 1 else 0) + (if x.left = true then 2 else 0)) ||| BitVec.ofInt IntKind.i64.bits 4).toNat : Int) = flagI x := by rw [or_4, flagI, if_pos h]
theorem or_far {x : OpD} (h : x.at_.own = false) (h' : rootB x.at_ = false) : IntKind.i64.wrap ((BitVec.ofInt IntKind.i64.bits ((if x.kind = 2 then 1 else 0) + (if x.left = true then 2 else 0)) ||| BitVec.ofInt IntKind.i64.bits 8).toNat : Int) = flagI x := by rw [or_8, flagI, h, h']; rfl
theorem or_root {x : OpD} (h : x.at_.own = false) (h' : rootB x.at_ = true) : (if x.kind = 2 then 1 else 0) + (if x.left = true then 2 else 0) = flagI x := by rw [flagI, h, h']; exact (Int.add_zero _).symm
theorem flag_lt (x : OpD) : flagI x < 9223372036854775808 := by have := flagI_range x; omega
theorem flag_len (x : OpD) : (numB (flagI x)).length ≤ 9 := numB_len (flag_lt x)
theorem put_any (v : Value) (xs : List UInt8) (n : Nat) (w : World) (ho : Own w 5 1 v (bytesC xs)) (hr : xs.length + (vi n).length ≤ 140737488355328) : Calls Tryd.prog 94 #[v, .int .i64 (n : Int)] w (Ret fun v' w' => AppB 5 w v xs w' v' (vi n)) := by
  refine calls_of_CW 20 [4] [(0, v), (1, .int .i64 (n : Int))] Tryd.func94 rfl rfl rfl (by simp) args2 ?_
  refine CW.seq fun K1 hK1 => ?_
  refine CW.region ?_
  refine WL.val (Y.assign rfl) (by decide) ?_
  refine WL.nil ?_
  refine hK1 _ _ ?_; try clear hK1 K1
  refine CW.seq fun K2 hK2 => ?_
  refine CW.block ?_
  refine CW.loop (X := Nat × List UInt8 × Value) (fun x => [(0, x.2.2), (1, .int .i64 (x.1 : Int))]) (fun x w0 => AppB 5 w v xs w0 x.2.2 x.2.1 ∧ x.2.1 ++ vi x.1 = vi n) (fun x => x.1) (n, [], v) (Fr.le.cons rfl (Fr.le.cons rfl Fr.le.nil)) ⟨AppB.refl ho, rfl⟩ ?_
  intro x w1 hl1
  obtain ⟨n1, pre, v1⟩ := x
  dsimp only at hl1 ⊢
  obtain ⟨hA, hvi⟩ := hl1
  have hlen := congrArg List.length hvi
  simp only [List.length_append] at hlen
  try simp only [] at hlen hvi
  refine CW.seq fun K3 hK3 => ?_
  refine CW.seq fun K4 hK4 => ?_
  refine CW.region ?_
  refine WL.val (Y.move rfl) (by decide) ?_
  refine WL.val (Y.geq rfl rfl) (by decide) ?_
  refine WL.nil ?_
  refine hK4 _ _ ?_; try clear hK4 K4
  first | refine CW.condD rfl (fun ht5 => ?_) (fun ht5 => ?_) | refine CW.condND rfl (fun ht5 => ?_) (fun ht5 => ?_) | refine CW.condN rfl (fun ht5 => ?_) (fun ht5 => ?_) | refine CW.cond rfl (fun ht5 => ?_) (fun ht5 => ?_)
  · -- then
    refine CW.skip ?_
    refine hK3 _ _ ?_; try clear hK3 K3
    refine CW.seq fun K6 hK6 => ?_
    refine CW.block ?_
    refine CW.region ?_
    refine WL.val (Y.move rfl) (by decide) ?_
    refine WL.val (Y.move rfl) (by decide) ?_
    refine WL.val (Y.conv_int Tryd.underlying3 Tryd.underlying5 rfl) (by decide) ?_
    refine WL.val (Y.or_k rfl rfl ((u8_or n1))) (by decide) ?_
    refine WL.st (St.buildSlice rfl (bs1 _)) (by decide) fun v13 w2 hR2 => ?_
    obtain ⟨g, rfl, hg, hB, hx⟩ := hR2
    refine WL.st (St.app Tryd.underlying95 Tryd.underlying95 ai_u8 rfl rfl ((hA.extR hx).1) (Blk.src1 hB) (by rw [vi_ge (n := n1) (by omega)] at hlen; simp only [List.length_append, List.length_cons] at hlen ⊢; omega)) (by decide) fun v14 w3 hR3 => ?_
    have hA2 := (hA.extR hx).trans hR3
    refine WL.val (Y.assign rfl) (by decide) ?_
    refine WL.nil ?_
    refine hK6 _ _ ?_; try clear hK6 K6
    refine CW.region ?_
    refine WL.val (Y.move rfl) (by decide) ?_
    refine WL.val (Y.shr rfl rfl (by decide) (shr7 n1)) (by decide) ?_
    refine WL.val (Y.assign rfl) (by decide) ?_
    refine WL.nil ?_
    refine ⟨(n1 / 128, pre ++ [UInt8.ofNat (n1 % 128 + 128)], _), by show n1 / 128 < n1; omega, (Fr.le.cons rfl (Fr.le.cons rfl Fr.le.nil)), hA2, ?_⟩
    rw [← hvi, vi_ge (n := n1) (by omega)]
    simp
  refine CW.exit ?_
  refine hK2 _ _ ?_; try clear hK2 K2
  refine CW.seq fun K7 hK7 => ?_
  refine CW.region ?_
  refine WL.val (Y.move rfl) (by decide) ?_
  refine WL.val (Y.move rfl) (by decide) ?_
  refine WL.val (Y.conv_int Tryd.underlying3 Tryd.underlying5 rfl) (by decide) ?_
  refine WL.st (St.buildSlice rfl (bs1 _)) (by decide) fun v18 w4 hR4 => ?_
  obtain ⟨g, rfl, hg, hB, hx⟩ := hR4
  refine WL.st (St.app Tryd.underlying95 Tryd.underlying95 ai_u8 rfl rfl ((hA.extR hx).1) (Blk.src1 (by rw [← u8_of]; exact hB)) (by rw [vi_lt (n := n1) (by omega)] at hlen; simp only [List.length_append, List.length_cons, List.length_nil] at hlen ⊢; omega)) (by decide) fun v19 w5 hR5 => ?_
  have hA2 := (hA.extR hx).trans hR5
  refine WL.val (Y.assign rfl) (by decide) ?_
  refine WL.nil ?_
  refine hK7 _ _ ?_; try clear hK7 K7
  refine CW.ret ⟨_, rfl, ?_⟩
  rw [← hvi, vi_lt (n := n1) (by omega)]
  exact hA2
theorem num_any (n : Int) (w : World) (hn : n < 9223372036854775808) : Calls Tryd.prog 93 #[.int .i64 n] w (Ret fun v w' => ∃ u, v = .tuple #[u, .int .i64 (if n < 0 then 9 else 0)] ∧ AppB 5 w (.slice none 0 0) [] w' u (numB n)) := by
  refine calls_of_CW 8 [2, 3] [(0, .int .i64 n)] Tryd.func93 rfl rfl rfl (by simp) args1 ?_
  refine CW.seq fun K1 hK1 => ?_
  refine CW.region ?_
  refine WL.val (Y.assign rfl) (by decide) ?_
  refine WL.val (Y.assign rfl) (by decide) ?_
  refine WL.nil ?_
  refine hK1 _ _ ?_; try clear hK1 K1
  refine CW.seq fun K2 hK2 => ?_
  refine CW.seq fun K3 hK3 => ?_
  refine CW.region ?_
  refine WL.val (Y.move rfl) (by decide) ?_
  refine WL.val (Y.lss rfl rfl) (by decide) ?_
  refine WL.nil ?_
  refine hK3 _ _ ?_; try clear hK3 K3
  first | refine CW.condD rfl (fun ht4 => ?_) (fun ht4 => ?_) | refine CW.condND rfl (fun ht4 => ?_) (fun ht4 => ?_) | refine CW.condN rfl (fun ht4 => ?_) (fun ht4 => ?_) | refine CW.cond rfl (fun ht4 => ?_) (fun ht4 => ?_)
  · -- then
    refine CW.seq fun K5 hK5 => ?_
    refine CW.region ?_
    refine WL.val (Y.assign rfl) (by decide) ?_
    refine WL.val (Y.assign rfl) (by decide) ?_
    refine WL.nil ?_
    refine hK5 _ _ ?_; try clear hK5 K5
    refine CW.ret ⟨_, rfl, ?_⟩
    exact ⟨_, by rw [if_pos ht4], by rw [numB, if_pos ht4]; exact AppB.refl Own.nil⟩
  refine CW.skip ?_
  refine hK2 _ _ ?_; try clear hK2 K2
  refine CW.seq fun K6 hK6 => ?_
  refine CW.region ?_
  refine WL.val (Y.move rfl) (by decide) ?_
  refine WL.call Tryd.func94 rfl rfl rfl ((by rw [← Int.toNat_of_nonneg (Int.not_lt.1 ht4)]; exact put_any _ [] _ _ Own.nil (by have := vi_len9 (n := n.toNat) (by omega); simp; omega))) (by simp) ?_; rintro v7 w1 hR1
  skip
  refine WL.val (Y.assign rfl) (by decide) ?_
  refine WL.val (Y.assign rfl) (by decide) ?_
  refine WL.nil ?_
  refine hK6 _ _ ?_; try clear hK6 K6
  refine CW.ret ⟨_, rfl, ?_⟩
  exact ⟨_, by rw [if_neg ht4], by rw [numB, if_neg ht4]; exact hR1⟩
theorem text_any (s : ByteArray) (w : World) (hs : s.size ≤ 140737488355300) : Calls Tryd.prog 81 #[.string s] w (Ret fun v w' => AppB 5 w (.slice none 0 0) [] w' v (textB s.toList)) := by
  have h9 := vi_len9 (n := s.size) (by omega)
  refine calls_of_CW 8 [2] [(0, .string s)] Tryd.func81 rfl rfl rfl (by simp) args1 ?_
  refine CW.seq fun K1 hK1 => ?_
  refine CW.region ?_
  refine WL.val (Y.assign rfl) (by decide) ?_
  refine WL.nil ?_
  refine hK1 _ _ ?_; try clear hK1 K1
  refine CW.seq fun K2 hK2 => ?_
  refine CW.region ?_
  refine WL.val (Y.move rfl) (by decide) ?_
  refine WL.val (Y.len_string Tryd.underlying9 rfl) (by decide) ?_
  refine WL.call Tryd.func94 rfl rfl rfl ((put_any _ [] s.size _ Own.nil (by simp; omega))) (by simp) ?_; rintro v5 w1 hR1
  skip
  refine WL.val (Y.move rfl) (by decide) ?_
  refine WL.st (St.appS Tryd.underlying95 Tryd.underlying9 ai_u8 rfl rfl hR1.1 (by simp; omega)) (by decide) fun v7 w2 hR2 => ?_
  skip
  refine WL.val (Y.assign rfl) (by decide) ?_
  refine WL.nil ?_
  refine hK2 _ _ ?_; try clear hK2 K2
  refine CW.ret ⟨_, rfl, ?_⟩
  unfold textB
  rw [toList_length]
  exact hR1.trans hR2
theorem cnum_any (v : Value) (xs : List UInt8) (n : Int) (w : World) (ho : Own w 5 1 v (bytesC xs)) (hn : n < 9223372036854775808) (hr : xs.length + 20 ≤ 140737488355328) : Calls Tryd.prog 80 #[v, .int .i64 n] w (Ret fun v' w' => AppB 5 w v xs w' v' (numB n)) := by
  refine calls_of_CW 15 [4] [(0, v), (1, .int .i64 n)] Tryd.func80 rfl rfl rfl (by simp) args2 ?_
  refine CW.seq fun K1 hK1 => ?_
  refine CW.region ?_
  refine WL.val (Y.assign rfl) (by decide) ?_
  refine WL.nil ?_
  refine hK1 _ _ ?_; try clear hK1 K1
  refine CW.seq fun K2 hK2 => ?_
  refine CW.region ?_
  refine WL.val (Y.move rfl) (by decide) ?_
  refine WL.call Tryd.func93 rfl rfl rfl ((num_any n _ hn)) (by simp) ?_; rintro v9 w1 hR1
  obtain ⟨u, rfl, hA⟩ := hR1
  refine WL.val (Y.move rfl) (by decide) ?_
  refine WL.val (Y.extract rfl rfl) (by decide) ?_
  refine WL.val (Y.extract rfl rfl) (by decide) ?_
  refine WL.val (Y.assign rfl) (by decide) ?_
  refine WL.val (Y.assign rfl) (by decide) ?_
  refine WL.nil ?_
  refine hK2 _ _ ?_; try clear hK2 K2
  refine CW.seq fun K3 hK3 => ?_
  refine CW.region ?_
  refine WL.val (Y.move rfl) (by decide) ?_
  refine WL.val (Y.move rfl) (by decide) ?_
  refine WL.st (St.app Tryd.underlying95 Tryd.underlying95 ai_u8 rfl rfl (ho.ext hA.nilExt) (Src.own hA.nilOwn) (by have := numB_len hn; omega)) (by decide) fun v14 w2 hR2 => ?_
  skip
  refine WL.val (Y.assign rfl) (by decide) ?_
  refine WL.nil ?_
  refine hK3 _ _ ?_; try clear hK3 K3
  refine CW.ret ⟨_, rfl, ?_⟩
  exact hR2.extL hA.nilExt
theorem cop_any (v : Value) (xs : List UInt8) (x : OpD) (w : World) (ho : Own w 5 1 v (bytesC xs)) (hn : x.at_.n < 9223372036854775808) (hr : xs.length + 100 ≤ 140737488355328) : Calls Tryd.prog 82 #[v, opV x] w (Ret fun v' w' => AppB 5 w v xs w' v' (opB x)) := by
  have ho0 := ho
  refine calls_of_CW 55 [4] [(0, v), (1, opV x)] Tryd.func82 rfl rfl rfl (by simp) args2 ?_
  refine CW.seq fun K1 hK1 => ?_
  refine CW.region ?_
  refine WL.box rfl rfl (by decide) fun g3 w1 hx1 hg3 hB3 => ?_
  have hM3 := hB3.mem; have hB0 := hB3
  refine WL.val (Y.assign rfl) (by decide) ?_
  refine WL.nil ?_
  refine hK1 _ _ ?_; try clear hK1 K1
  refine CW.seq fun K2 hK2 => ?_
  refine CW.region ?_
  refine WL.val (Y.assign rfl) (by decide) ?_
  refine WL.nil ?_
  refine hK2 _ _ ?_; try clear hK2 K2
  refine CW.seq_to (X := Unit) (fun _ => [(0, v), (3, .pointer (some ⟨g3, 0, none⟩)), (5, .int .i64 (if x.kind = 2 then 1 else 0))]) (fun _ w0 => Ext w1 w0) ?_ ?_
  · skip
    refine CW.seq fun K4 hK4 => ?_
    refine CW.region ?_
    refine WL.val (Y.fieldAddr fo_apiOp0 rfl) (by decide) ?_
    refine WL.val (Y.load1 Tryd.underlying3 rfl hM3.op0 rfl) (by decide) ?_
    refine WL.val (Y.eql rfl rfl) (by decide) ?_
    refine WL.nil ?_
    refine hK4 _ _ ?_; try clear hK4 K4
    first | refine CW.condD rfl (fun ht5 => ?_) (fun ht5 => ?_) | refine CW.condND rfl (fun ht5 => ?_) (fun ht5 => ?_) | refine CW.condN rfl (fun ht5 => ?_) (fun ht5 => ?_) | refine CW.cond rfl (fun ht5 => ?_) (fun ht5 => ?_)
    · -- then
      refine CW.region ?_
      refine WL.val (Y.move rfl) (by decide) ?_
      refine WL.val (Y.or_k rfl rfl (or_1)) (by decide) ?_
      refine WL.val (Y.assign rfl) (by decide) ?_
      refine WL.nil ?_
      exact ⟨(), Fr.le.cons rfl (Fr.le.cons rfl (Fr.le.cons (by rw [if_pos ht5]; rfl) Fr.le.nil)), Chg.refl⟩
    refine CW.skip ?_
    exact ⟨(), Fr.le.cons rfl (Fr.le.cons rfl (Fr.le.cons (by rw [if_neg ht5]; rfl) Fr.le.nil)), Chg.refl⟩
  rintro u w2 hj2
  have hM3 := hM3.ext hj2
  have hB3 := hB3.ext hj2
  have hx2 := hj2
  refine CW.seq_to (X := Unit) (fun _ => [(0, v), (3, .pointer (some ⟨g3, 0, none⟩)), (5, .int .i64 ((if x.kind = 2 then 1 else 0) + (if x.left = true then 2 else 0)))]) (fun _ w0 => Ext w1 w0) ?_ ?_
  · skip
    refine CW.seq fun K7 hK7 => ?_
    refine CW.region ?_
    refine WL.val (Y.fieldAddr fo_apiOp1 rfl) (by decide) ?_
    refine WL.val (Y.load1 Tryd.underlying4 rfl hM3.op1 rfl) (by decide) ?_
    refine WL.nil ?_
    refine hK7 _ _ ?_; try clear hK7 K7
    first | refine CW.condD rfl (fun ht8 => ?_) (fun ht8 => ?_) | refine CW.condND rfl (fun ht8 => ?_) (fun ht8 => ?_) | refine CW.condN rfl (fun ht8 => ?_) (fun ht8 => ?_) | refine CW.cond rfl (fun ht8 => ?_) (fun ht8 => ?_)
    · -- then
      refine CW.region ?_
      refine WL.val (Y.move rfl) (by decide) ?_
      refine WL.val (Y.or_k rfl rfl (or_2 _)) (by decide) ?_
      refine WL.val (Y.assign rfl) (by decide) ?_
      refine WL.nil ?_
      exact ⟨(), Fr.le.cons rfl (Fr.le.cons rfl (Fr.le.cons (by rw [ht8]; rfl) Fr.le.nil)), hx2.thenExt Chg.refl⟩
    refine CW.skip ?_
    exact ⟨(), Fr.le.cons rfl (Fr.le.cons rfl (Fr.le.cons (by rw [ht8, if_neg (show ¬ (false = true) by decide), Int.add_zero]; rfl) Fr.le.nil)), hx2.thenExt Chg.refl⟩
  rintro u w3 hj3
  have hE3 := hj3
  have ho := ho0.ext (hx1.thenExt hj3)
  have hB3 := hB0.ext hj3
  have hM3 := hB3.mem
  have hne : v.ownBlock ≠ some g3 := fun e => by have := ho0.lt _ e; omega
  have hfl := flag_len x
  have hnl := numB_len hn
  have hdl := x.at_.c.2
  refine CW.seq_to (X := Value) (fun u => [(0, u), (3, .pointer (some ⟨g3, 0, none⟩))]) (fun u w0 => AppB 5 w v xs w0 u (if x.at_.own = true then numB (flagI x) ++ numB x.at_.n else if rootB x.at_ = true then numB (flagI x) else numB (flagI x) ++ x.at_.c.1 ++ numB x.at_.n) ∧ Blk w0 g3 63 (opC x)) ?_ ?_
  · skip
    refine CW.block ?_
    refine CW.seq fun K10 hK10 => ?_
    refine CW.region ?_
    refine WL.val (Y.fieldAddr fo_apiOp2 rfl) (by decide) ?_
    refine WL.val (Y.fieldAddr fo_apiRef0 rfl) (by decide) ?_
    refine WL.val (Y.load1 Tryd.underlying4 rfl hM3.op2.ref0 rfl) (by decide) ?_
    refine WL.val (Y.assign rfl) (by decide) ?_
    refine WL.nil ?_
    refine hK10 _ _ ?_; try clear hK10 K10
    first | refine CW.condD rfl (fun ht11 => ?_) (fun ht11 => ?_) | refine CW.condND rfl (fun ht11 => ?_) (fun ht11 => ?_) | refine CW.condN rfl (fun ht11 => ?_) (fun ht11 => ?_) | refine CW.cond rfl (fun ht11 => ?_) (fun ht11 => ?_)
    · -- then
      refine CW.held (fun wq => Blk wq g3 63 (opC x)) (by kernel_rfl) 9 rfl fun w4 hx4 => ?_; have hM3 := hM3.ext hx4; have hB3 := hB3.ext hx4
      have hS : Blk w4 g3 63 (opC x) := hB3
      refine RH.take 0 (fun _ _ _ _ h => h) (by kernel_rfl) hS rfl (by kernel_rfl) (by kernel_rfl) (fun wq hq => Y.move rfl) (by decide) ?_
      refine RH.take 1 (fun _ _ _ _ h => h) (by kernel_rfl) hS rfl (by kernel_rfl) (by kernel_rfl) (fun wq hq => Y.move rfl) (by decide) ?_
      refine RH.take 2 (fun _ _ _ _ h => h) (by kernel_rfl) hS rfl (by kernel_rfl) (by kernel_rfl) (fun wq hq => Y.or_k rfl rfl (or_own ht11)) (by decide) ?_
      refine RH.take 4 (fun _ _ _ _ h => h) (by kernel_rfl) hS rfl (by kernel_rfl) (by kernel_rfl) (fun wq hq => Y.fieldAddr fo_apiOp2 rfl) (by decide) ?_
      refine RH.take 5 (fun _ _ _ _ h => h) (by kernel_rfl) hS rfl (by kernel_rfl) (by kernel_rfl) (fun wq hq => Y.fieldAddr fo_apiRef2 rfl) (by decide) ?_
      refine RH.take 6 (fun _ _ _ _ h => h) (by kernel_rfl) hS rfl (by kernel_rfl) (by kernel_rfl) (fun wq hq => Y.load1 Tryd.underlying3 rfl hq.mem.op2.ref2 rfl) (by decide) ?_
      refine RH.one 3 (by kernel_rfl) ?_
      refine RS.call rfl (fun _ _ h => by cases h) Tryd.func80 rfl rfl rfl (cnum_any _ _ _ _ (ho.ext hx4) (flag_lt x) (by omega)) (by decide) fun v34 w5 hR5 => ?_
      have hS := hR5.blk hS hne
      have hne := hR5.away hB3.lt hne
      refine ⟨hS, ?_⟩
      refine RH.one 7 (by kernel_rfl) ?_
      refine RS.call rfl (fun _ _ h => by cases h) Tryd.func80 rfl rfl rfl (cnum_any _ _ _ _ hR5.1 hn (by rw [List.length_append]; omega)) (by decide) fun v38 w6 hR6 => ?_
      have hS := hR6.blk hS hne
      have hA := (hR5.trans hR6).extL (hx1.thenExt (hE3.thenExt hx4))
      refine ⟨hS, ?_⟩
      refine RH.take 8 (fun _ _ _ _ h => h) (by kernel_rfl) hS rfl (by kernel_rfl) (by kernel_rfl) (fun wq hq => Y.assign rfl) (by decide) ?_
      refine RH.done (by kernel_rfl) ?_
      exact ⟨_, Fr.le.cons rfl (Fr.le.cons rfl Fr.le.nil), by rw [if_pos ht11]; exact hA, hS⟩
    refine CW.seq fun K12 hK12 => ?_
    refine CW.region ?_
    refine WL.val (Y.fieldAddr fo_apiOp2 rfl) (by decide) ?_
    refine WL.val (Y.load Tryd.underlying50 rfl hM3.op2 (sz_apiRef _) rfl) (by decide) ?_
    refine WL.call Tryd.func67 rfl rfl rfl (root_any _ _) (by simp) ?_; rintro v w7 ⟨rfl, hx7⟩; have hM3 := hM3.ext hx7; have hB3 := hB3.ext hx7
    refine WL.val (Y.assign rfl) (by decide) ?_
    refine WL.nil ?_
    refine hK12 _ _ ?_; try clear hK12 K12
    first | refine CW.condD rfl (fun ht13 => ?_) (fun ht13 => ?_) | refine CW.condND rfl (fun ht13 => ?_) (fun ht13 => ?_) | refine CW.condN rfl (fun ht13 => ?_) (fun ht13 => ?_) | refine CW.cond rfl (fun ht13 => ?_) (fun ht13 => ?_)
    · -- then
      refine CW.region ?_
      refine WL.val (Y.move rfl) (by decide) ?_
      refine WL.val (Y.move rfl) (by decide) ?_
      refine WL.call Tryd.func80 rfl rfl rfl (by rw [or_root ht11 (decide_eq_true ht13)]; exact cnum_any _ _ _ _ (ho.ext hx7) (flag_lt x) (by omega)) (by simp) ?_; rintro v45 w8 hR8
      have hS := hR8.blk hB3 hne
      refine WL.val (Y.assign rfl) (by decide) ?_
      refine WL.nil ?_
      exact ⟨_, Fr.le.cons rfl (Fr.le.cons rfl Fr.le.nil), by rw [if_neg (by simp [ht11]), if_pos (show rootB x.at_ = true from decide_eq_true ht13)]; exact hR8.extL (hx1.thenExt (hE3.thenExt hx7)), hS⟩
    refine CW.held (fun wq => Blk wq g3 63 (opC x)) (by kernel_rfl) 13 rfl fun w9 hx9 => ?_; have hM3 := hM3.ext hx9; have hB3 := hB3.ext hx9
    have hS : Blk w9 g3 63 (opC x) := hB3
    refine RH.take 0 (fun _ _ _ _ h => h) (by kernel_rfl) hS rfl (by kernel_rfl) (by kernel_rfl) (fun wq hq => Y.move rfl) (by decide) ?_
    refine RH.take 1 (fun _ _ _ _ h => h) (by kernel_rfl) hS rfl (by kernel_rfl) (by kernel_rfl) (fun wq hq => Y.move rfl) (by decide) ?_
    refine RH.take 2 (fun _ _ _ _ h => h) (by kernel_rfl) hS rfl (by kernel_rfl) (by kernel_rfl) (fun wq hq => Y.or_k rfl rfl (or_far ht11 (decide_eq_false ht13))) (by decide) ?_
    refine RH.take 4 (fun _ _ _ _ h => h) (by kernel_rfl) hS rfl (by kernel_rfl) (by kernel_rfl) (fun wq hq => Y.fieldAddr fo_apiOp2 rfl) (by decide) ?_
    refine RH.take 5 (fun _ _ _ _ h => h) (by kernel_rfl) hS rfl (by kernel_rfl) (by kernel_rfl) (fun wq hq => Y.fieldAddr fo_apiRef1 rfl) (by decide) ?_
    refine RH.take 6 (fun _ _ _ _ h => h) (by kernel_rfl) hS rfl (by kernel_rfl) (by kernel_rfl) (fun wq hq => Y.slice_arr Tryd.underlying48 rfl sz_uint8) (by decide) ?_
    refine RH.take 8 (fun _ _ _ _ h => h) (by kernel_rfl) hS rfl (by kernel_rfl) (by kernel_rfl) (fun wq hq => Y.fieldAddr fo_apiOp2 rfl) (by decide) ?_
    refine RH.take 9 (fun _ _ _ _ h => h) (by kernel_rfl) hS rfl (by kernel_rfl) (by kernel_rfl) (fun wq hq => Y.fieldAddr fo_apiRef2 rfl) (by decide) ?_
    refine RH.take 10 (fun _ _ _ _ h => h) (by kernel_rfl) hS rfl (by kernel_rfl) (by kernel_rfl) (fun wq hq => Y.load1 Tryd.underlying3 rfl hq.mem.op2.ref2 rfl) (by decide) ?_
    refine RH.one 3 (by kernel_rfl) ?_
    refine RS.call rfl (fun _ _ h => by cases h) Tryd.func80 rfl rfl rfl (cnum_any _ _ _ _ (ho.ext (hx7.thenExt hx9)) (flag_lt x) (by omega)) (by decide) fun v18 w10 hR10 => ?_
    have hS := hR10.blk hS hne
    have hne := hR10.away hB3.lt hne
    refine ⟨hS, ?_⟩
    refine RH.one 7 (by kernel_rfl) ?_
    refine RS.st rfl (St.app Tryd.underlying95 Tryd.underlying95 ai_u8 rfl rfl hR10.1 (Src.dig hS.mem.op2.ref1) (by rw [List.length_append]; omega)) (by decide) fun v22 w11 hR11 => ?_
    have hL := hS.lt
    have hS := hR11.blk hS hne
    have hne := hR11.away hL hne
    refine ⟨hS, ?_⟩
    refine RH.one 11 (by kernel_rfl) ?_
    refine RS.call rfl (fun _ _ h => by cases h) Tryd.func80 rfl rfl rfl (cnum_any _ _ _ _ hR11.1 hn (by simp only [List.length_append, hdl]; omega)) (by decide) fun v26 w12 hR12 => ?_
    have hS := hR12.blk hS hne
    refine ⟨hS, ?_⟩
    refine RH.take 12 (fun _ _ _ _ h => h) (by kernel_rfl) hS rfl (by kernel_rfl) (by kernel_rfl) (fun wq hq => Y.assign rfl) (by decide) ?_
    refine RH.done (by kernel_rfl) ?_
    exact ⟨_, Fr.le.cons rfl (Fr.le.cons rfl Fr.le.nil), by rw [if_neg (by simp [ht11]), if_neg (show ¬ rootB x.at_ = true from fun e => ht13 (of_decide_eq_true e)), List.append_assoc]; exact (hR10.trans (hR11.trans hR12)).extL (hx1.thenExt (hE3.thenExt (hx7.thenExt hx9))), hS⟩
  rintro u w13 hj13
  obtain ⟨hA, hB3⟩ := hj13
  have hM3 := hB3.mem
  refine CW.seq_to (X := Value) (fun u => [(0, u)]) (fun u w0 => AppB 5 w v xs w0 u (opB x)) ?_ ?_
  · skip
    refine CW.seq fun K15 hK15 => ?_
    refine CW.region ?_
    refine WL.val (Y.fieldAddr fo_apiOp0 rfl) (by decide) ?_
    refine WL.val (Y.load1 Tryd.underlying3 rfl hM3.op0 rfl) (by decide) ?_
    refine WL.val (Y.eql rfl rfl) (by decide) ?_
    refine WL.nil ?_
    refine hK15 _ _ ?_; try clear hK15 K15
    first | refine CW.condD rfl (fun ht16 => ?_) (fun ht16 => ?_) | refine CW.condND rfl (fun ht16 => ?_) (fun ht16 => ?_) | refine CW.condN rfl (fun ht16 => ?_) (fun ht16 => ?_) | refine CW.cond rfl (fun ht16 => ?_) (fun ht16 => ?_)
    · -- then
      refine CW.region ?_
      refine WL.val (Y.move rfl) (by decide) ?_
      refine WL.val (Y.fieldAddr fo_apiOp3 rfl) (by decide) ?_
      refine WL.val (Y.load1 Tryd.underlying5 rfl hM3.op3 rfl) (by decide) ?_
      refine WL.st (St.buildSlice rfl (bs1 _)) (by decide) fun v52 w14 hR14 => ?_
      obtain ⟨g, rfl, hg, hB, hx⟩ := hR14
      refine WL.st (St.app Tryd.underlying95 Tryd.underlying95 ai_u8 rfl rfl (hA.1.ext hx) (Blk.src1 hB) (by have := opB_len hn; rw [opB] at this; rw [List.length_append] at this ⊢; omega)) (by decide) fun v53 w15 hR15 => ?_
      skip
      refine WL.val (Y.assign rfl) (by decide) ?_
      refine WL.nil ?_
      exact ⟨_, Fr.le.cons rfl Fr.le.nil, by rw [opB, if_pos ht16]; exact (hA.extR hx).trans hR15⟩
    refine CW.skip ?_
    exact ⟨_, Fr.le.cons rfl Fr.le.nil, by rw [opB, if_neg ht16, List.append_nil]; exact hA⟩
  rintro u w16 hj16
  skip
  refine CW.seq fun K17 hK17 => ?_
  refine CW.region ?_
  refine WL.val (Y.move rfl) (by decide) ?_
  refine WL.val (Y.assign rfl) (by decide) ?_
  refine WL.nil ?_
  refine hK17 _ _ ?_; try clear hK17 K17
  refine CW.ret ⟨_, rfl, ?_⟩
  exact hj16
theorem encode_any (cv : Value) (cm : ComD) (w : World) (hc : Com w cv cm) : Calls Tryd.prog 64 #[cv] w (Ret fun v w' => ∃ u, v = .tuple #[u, .int .i64 (mayI cm)] ∧ AppB 5 w (.slice none 0 0) [] w' u (if mayI cm = 0 then comB cm else [])) := by
  have hc0 := hc
  obtain ⟨_, _, rfl, ⟨Ap, mp, cp, rfl, hpl, hpc, hpm, hpx⟩, ⟨Ao, mo, co, rfl, hol, hoc, hom, hox⟩, hau, hno⟩ := hc0
  unfold maxLen at hpm hom hau hno
  refine calls_of_CW 56 [2, 3] [(0, .agg (comC (.slice Ap mp cp) cm.author cm.note (.slice Ao mo co)).toArray)] Tryd.func64 rfl rfl rfl (by simp) args1 ?_
  refine CW.seq fun K1 hK1 => ?_
  refine CW.region ?_
  refine WL.box rfl rfl (by decide) fun g1 w1 hx1 hg1 hB1 => ?_
  have hM1 := hB1.mem
  refine WL.val (Y.assign rfl) (by decide) ?_
  refine WL.val (Y.assign rfl) (by decide) ?_
  refine WL.nil ?_
  refine hK1 _ _ ?_; try clear hK1 K1
  refine CW.seq fun K2 hK2 => ?_
  refine CW.seq fun K3 hK3 => ?_
  refine CW.region ?_
  refine WL.val (Y.load Tryd.underlying37 rfl hM1 (sz_apiCommit _ _ _ _) rfl) (by decide) ?_
  refine WL.call Tryd.func79 rfl rfl rfl ((may_any _ cm _ (hc.ext hx1))) (by simp) ?_; rintro v w2 ⟨rfl, hx2⟩; have hM1 := hM1.ext hx2; have hB1 := hB1.ext hx2
  refine WL.val (Y.assign rfl) (by decide) ?_
  refine WL.nil ?_
  refine hK3 _ _ ?_; try clear hK3 K3
  refine CW.seq fun K4 hK4 => ?_
  refine CW.region ?_
  refine WL.val (Y.move rfl) (by decide) ?_
  refine WL.val (Y.neq rfl rfl) (by decide) ?_
  refine WL.nil ?_
  refine hK4 _ _ ?_; try clear hK4 K4
  first | refine CW.condD rfl (fun ht5 => ?_) (fun ht5 => ?_) | refine CW.condND rfl (fun ht5 => ?_) (fun ht5 => ?_) | refine CW.condN rfl (fun ht5 => ?_) (fun ht5 => ?_) | refine CW.cond rfl (fun ht5 => ?_) (fun ht5 => ?_)
  · -- then
    refine CW.seq fun K6 hK6 => ?_
    refine CW.region ?_
    refine WL.val (Y.move rfl) (by decide) ?_
    refine WL.val (Y.assign rfl) (by decide) ?_
    refine WL.val (Y.assign rfl) (by decide) ?_
    refine WL.nil ?_
    refine hK6 _ _ ?_; try clear hK6 K6
    refine CW.ret ⟨_, rfl, ?_⟩
    exact ⟨_, rfl, by rw [if_neg ht5]; exact (AppB.refl Own.nil).extR (hx1.thenExt hx2)⟩
  refine CW.skip ?_
  refine hK2 _ _ ?_; try clear hK2 K2
  refine CW.seq fun K7 hK7 => ?_
  refine CW.region ?_
  refine WL.val (Y.fieldAddr fo_apiCommit0 rfl) (by decide) ?_
  refine WL.val (Y.load1 Tryd.underlying25 rfl hM1.com0 rfl) (by decide) ?_
  refine WL.val (Y.len_slice Tryd.underlying25 rfl) (by decide) ?_
  refine WL.call Tryd.func80 rfl rfl rfl ((cnum_any _ [] (mp : Int) _ Own.nil (by omega) (by simp))) (by simp) ?_; rintro v18 w3 hR3
  have hmo := mayI_ok (Decidable.not_not.1 ht5)
  have hne := hR3.away hB1.lt (by simp [Value.ownBlock])
  have hB1 := hR3.blk hB1 (by simp [Value.ownBlock])
  have hM1 := hB1.mem
  have hA := hR3.extL (hx1.thenExt hx2)
  rw [numB_nat] at hA
  have hvp := vi_len9 (n := mp) (by have := hmo.parents; omega)
  have hvo := vi_len9 (n := mo) (by have := hmo.ops; omega)
  refine WL.val (Y.assign rfl) (by decide) ?_
  refine WL.nil ?_
  refine hK7 _ _ ?_; try clear hK7 K7
  refine CW.seq fun K8 hK8 => ?_
  refine CW.seq fun K9 hK9 => ?_
  refine CW.region ?_
  refine WL.val (Y.fieldAddr fo_apiCommit0 rfl) (by decide) ?_
  refine WL.val (Y.load1 Tryd.underlying25 rfl hM1.com0 rfl) (by decide) ?_
  refine WL.val (Y.len_slice Tryd.underlying25 rfl) (by decide) ?_
  refine WL.val (Y.move rfl) (by decide) ?_
  refine WL.nil ?_
  refine hK9 _ _ ?_; try clear hK9 K9
  refine CW.block ?_
  refine CW.loop (X := Nat × Value) (fun x => [(1, .pointer (some ⟨g1, 0, none⟩)), (5, x.2), (20, .slice Ap mp cp), (21, .int .i64 (mp : Int)), (22, .int .i64 (x.1 : Int))]) (fun x w0 => x.1 ≤ mp ∧ AppB 5 w (.slice none 0 0) [] w0 x.2 (vi mp ++ ((cm.parents.take x.1).map (·.1)).flatten) ∧ Blk w0 g1 37 (comC (.slice Ap mp cp) cm.author cm.note (.slice Ao mo co)) ∧ x.2.ownBlock ≠ some g1) (fun x => mp - x.1) (0, v18) (by repeat (first | exact Fr.le.nil | refine Fr.le.cons rfl ?_)) ⟨Nat.zero_le _, by simpa using hA, hB1, hne⟩ ?_
  intro x w4 hl4
  obtain ⟨i, u⟩ := x
  dsimp only at hl4 ⊢
  clear hA hB1 hM1 hne
  obtain ⟨hi, hA, hB1, hne⟩ := hl4
  have hL4 := hA.nilExt
  have hM1 := hB1.mem
  have hfl : ((cm.parents.take i).map (·.1)).flatten.length ≤ (cm.parents.take i).length * 32 := flat_len (fun x _ => Nat.le_of_eq x.2)
  have htl : (cm.parents.take i).length ≤ 8 := by rw [List.length_take]; have := hmo.parents; omega
  refine CW.seq fun K10 hK10 => ?_
  refine CW.region ?_
  refine WL.val (Y.lss rfl rfl) (by decide) ?_
  refine WL.nil ?_
  refine hK10 _ _ ?_; try clear hK10 K10
  refine CW.seq fun K11 hK11 => ?_
  first | refine CW.condD rfl (fun ht12 => ?_) (fun ht12 => ?_) | refine CW.condND rfl (fun ht12 => ?_) (fun ht12 => ?_) | refine CW.condN rfl (fun ht12 => ?_) (fun ht12 => ?_) | refine CW.cond rfl (fun ht12 => ?_) (fun ht12 => ?_)
  · -- then
    refine CW.skip ?_
    refine hK11 _ _ ?_; try clear hK11 K11
    refine CW.seq fun K13 hK13 => ?_
    refine CW.block ?_
    refine CW.seq fun K14 hK14 => ?_
    refine CW.region ?_
    obtain ⟨d, hd⟩ : ∃ d, cm.parents[i]? = some d := ⟨_, List.getElem?_eq_getElem (by omega)⟩
    obtain ⟨ad, rfl, hmd⟩ := hpx _ d hd
    refine WL.val (Y.indexAddrN Tryd.underlying25 rfl rfl sz0_apiDigest (by omega)) (by decide) ?_
    refine WL.val (Y.load Tryd.underlying48 rfl (hmd.ext hL4) (sz_apiDigest _) rfl) (by decide) ?_
    refine as_apiDigest rfl (by simp) (by decide) fun g7 w5 hx5 hg7 hB7 => ?_
    have hM7 := hB7.mem; have hM1 := hM1.ext hx5; have hB1 := hB1.ext hx5
    refine WL.nil ?_
    refine hK14 _ _ ?_; try clear hK14 K14
    refine CW.region ?_
    refine WL.val (Y.move rfl) (by decide) ?_
    refine WL.val (Y.slice_arr Tryd.underlying48 rfl sz_uint8) (by decide) ?_
    refine WL.st (St.app Tryd.underlying95 Tryd.underlying95 ai_u8 rfl rfl (hA.1.ext hx5) (Src.dig hM7) (by simp only [List.length_append, List.nil_append]; omega)) (by decide) fun v28 w6 hR6 => ?_
    have hA2 := hA.trans (hR6.extL hx5)
    have hne2 := hR6.away hB1.lt hne
    have hB2 := hR6.blk hB1 hne
    refine WL.val (Y.assign rfl) (by decide) ?_
    refine WL.nil ?_
    refine hK13 _ _ ?_; try clear hK13 K13
    refine CW.region ?_
    refine WL.val (Y.add rfl rfl ⟨by omega, by omega⟩) (by decide) ?_
    refine WL.val (Y.move rfl) (by decide) ?_
    refine WL.nil ?_
    refine ⟨(i + 1, _), by show mp - (i + 1) < mp - i; omega, (by repeat (first | exact Fr.le.nil | refine Fr.le.cons rfl ?_)), by show i + 1 ≤ mp; omega, ?_, hB2, hne2⟩
    show AppB _ _ _ _ _ _ (_ ++ ((cm.parents.take (i+1)).map (·.1)).flatten)
    rw [flat_take_succ hd, ← List.append_assoc]
    exact hA2
  refine CW.exit ?_
  refine hK8 _ _ ?_; try clear hK8 K8
  refine CW.seq fun K15 hK15 => ?_
  refine CW.held (fun wq => Blk wq g1 37 (comC (.slice Ap mp cp) cm.author cm.note (.slice Ao mo co))) (by kernel_rfl) 10 rfl fun w7 hx7 => ?_; have hM1 := hM1.ext hx7; have hB1 := hB1.ext hx7
  have hS : Blk w7 g1 37 (comC (.slice Ap mp cp) cm.author cm.note (.slice Ao mo co)) := hB1
  rw [List.take_of_length_le (by omega)] at hA hfl
  have hA := hA.extR hx7
  have hna := hmo.name
  have hnn := hmo.note
  have hpp := hmo.parents
  have hta : (textB cm.author.toList).length ≤ 33 := by have := vi_len9 (n := cm.author.size) (by omega); rw [textB, List.length_append, toList_length]; omega
  have htn : (textB cm.note.toList).length ≤ 209 := by have := vi_len9 (n := cm.note.size) (by omega); rw [textB, List.length_append, toList_length]; omega
  refine RH.take 0 (fun _ _ _ _ h => h) (by kernel_rfl) hS rfl (by kernel_rfl) (by kernel_rfl) (fun wq hq => Y.move rfl) (by decide) ?_
  refine RH.take 1 (fun _ _ _ _ h => h) (by kernel_rfl) hS rfl (by kernel_rfl) (by kernel_rfl) (fun wq hq => Y.fieldAddr fo_apiCommit1 rfl) (by decide) ?_
  refine RH.take 2 (fun _ _ _ _ h => h) (by kernel_rfl) hS rfl (by kernel_rfl) (by kernel_rfl) (fun wq hq => Y.load1 Tryd.underlying9 rfl hq.mem.com1 rfl) (by decide) ?_
  refine RH.take 5 (fun _ _ _ _ h => h) (by kernel_rfl) hS rfl (by kernel_rfl) (by kernel_rfl) (fun wq hq => Y.fieldAddr fo_apiCommit2 rfl) (by decide) ?_
  refine RH.take 6 (fun _ _ _ _ h => h) (by kernel_rfl) hS rfl (by kernel_rfl) (by kernel_rfl) (fun wq hq => Y.load1 Tryd.underlying9 rfl hq.mem.com2 rfl) (by decide) ?_
  refine RH.one 3 (by kernel_rfl) ?_
  refine RS.call rfl (fun _ _ h => by cases h) Tryd.func81 rfl rfl rfl ((text_any _ _ (by omega))) (by decide) fun v33 w8 hR8 => ?_
  have hx8 := hR8.nilExt
  have hS := hS.ext hx8
  have hA := hA.extR hx8
  refine ⟨hS, ?_⟩
  refine RH.one 4 (by kernel_rfl) ?_
  refine RS.st rfl (St.app Tryd.underlying95 Tryd.underlying95 ai_u8 rfl rfl hA.1 (Src.own hR8.nilOwn) (by simp only [List.length_append, List.nil_append]; omega)) (by decide) fun v34 w9 hR9 => ?_
  have hne9 := hR9.away hS.lt hne
  have hS := hR9.blk hS hne
  have hA := hA.trans hR9
  refine ⟨hS, ?_⟩
  refine RH.one 7 (by kernel_rfl) ?_
  refine RS.call rfl (fun _ _ h => by cases h) Tryd.func81 rfl rfl rfl ((text_any _ _ (by omega))) (by decide) fun v37 w10 hR10 => ?_
  have hx10 := hR10.nilExt
  have hS := hS.ext hx10
  have hA := hA.extR hx10
  refine ⟨hS, ?_⟩
  refine RH.one 8 (by kernel_rfl) ?_
  refine RS.st rfl (St.app Tryd.underlying95 Tryd.underlying95 ai_u8 rfl rfl hA.1 (Src.own hR10.nilOwn) (by simp only [List.length_append, List.nil_append]; omega)) (by decide) fun v38 w11 hR11 => ?_
  have hne11 := hR11.away hS.lt hne9
  have hS := hR11.blk hS hne9
  have hA := hA.trans hR11
  have hB1 := hS
  have hM1 := hB1.mem
  refine ⟨hS, ?_⟩
  refine RH.take 9 (fun _ _ _ _ h => h) (by kernel_rfl) hS rfl (by kernel_rfl) (by kernel_rfl) (fun wq hq => Y.assign rfl) (by decide) ?_
  refine RH.done (by kernel_rfl) ?_
  refine hK15 _ _ ?_; try clear hK15 K15
  refine CW.seq fun K16 hK16 => ?_
  refine CW.region ?_
  refine WL.val (Y.move rfl) (by decide) ?_
  refine WL.val (Y.fieldAddr fo_apiCommit3 rfl) (by decide) ?_
  refine WL.val (Y.load1 Tryd.underlying35 rfl hM1.com3 rfl) (by decide) ?_
  refine WL.val (Y.len_slice Tryd.underlying35 rfl) (by decide) ?_
  refine WL.call Tryd.func80 rfl rfl rfl ((cnum_any _ _ (mo : Int) _ hA.1 (by omega) (by simp only [List.length_append, List.nil_append]; omega))) (by simp) ?_; rintro v43 w12 hR12
  have hne2 := hR12.away hB1.lt hne11
  have hB1 := hR12.blk hB1 hne11
  have hM1 := hB1.mem
  have hA := hA.trans hR12
  rw [numB_nat] at hA
  have hPl : (vi mp ++ (cm.parents.map (·.1)).flatten ++ textB cm.author.toList ++ textB cm.note.toList ++ vi mo).length ≤ 600 := by simp only [List.length_append]; omega
  generalize hPre : vi mp ++ (cm.parents.map (·.1)).flatten ++ textB cm.author.toList ++ textB cm.note.toList ++ vi mo = pre at hA hPl
  refine WL.val (Y.assign rfl) (by decide) ?_
  refine WL.nil ?_
  refine hK16 _ _ ?_; try clear hK16 K16
  refine CW.seq fun K17 hK17 => ?_
  refine CW.seq fun K18 hK18 => ?_
  refine CW.region ?_
  refine WL.val (Y.fieldAddr fo_apiCommit3 rfl) (by decide) ?_
  refine WL.val (Y.load1 Tryd.underlying35 rfl hM1.com3 rfl) (by decide) ?_
  refine WL.val (Y.len_slice Tryd.underlying35 rfl) (by decide) ?_
  refine WL.val (Y.move rfl) (by decide) ?_
  refine WL.nil ?_
  refine hK18 _ _ ?_; try clear hK18 K18
  refine CW.block ?_
  refine CW.loop (X := Nat × Value) (fun x => [(1, .pointer (some ⟨g1, 0, none⟩)), (5, x.2), (45, .slice Ao mo co), (46, .int .i64 (mo : Int)), (47, .int .i64 (x.1 : Int))]) (fun x w0 => x.1 ≤ mo ∧ AppB 5 w (.slice none 0 0) [] w0 x.2 (pre ++ ((cm.ops.take x.1).map opB).flatten) ∧ Blk w0 g1 37 (comC (.slice Ap mp cp) cm.author cm.note (.slice Ao mo co)) ∧ x.2.ownBlock ≠ some g1) (fun x => mo - x.1) (0, v43) (by repeat (first | exact Fr.le.nil | refine Fr.le.cons rfl ?_)) ⟨Nat.zero_le _, by simpa using hA, hB1, hne2⟩ ?_
  intro x w13 hl13
  clear hA hB1 hM1 hne2 hi
  obtain ⟨i, u⟩ := x
  dsimp only at hl13 ⊢
  obtain ⟨hi, hA, hB1, hne⟩ := hl13
  have hL13 := hA.nilExt
  have hM1 := hB1.mem
  have hfl : ((cm.ops.take i).map opB).flatten.length ≤ (cm.ops.take i).length * 51 := flat_len (fun x hx => opB_len (by have := hmo.n (List.mem_of_mem_take hx); omega))
  have htl : (cm.ops.take i).length ≤ 2000 := by rw [List.length_take]; have := hmo.ops; omega
  refine CW.seq fun K19 hK19 => ?_
  refine CW.region ?_
  refine WL.val (Y.lss rfl rfl) (by decide) ?_
  refine WL.nil ?_
  refine hK19 _ _ ?_; try clear hK19 K19
  refine CW.seq fun K20 hK20 => ?_
  first | refine CW.condD rfl (fun ht21 => ?_) (fun ht21 => ?_) | refine CW.condND rfl (fun ht21 => ?_) (fun ht21 => ?_) | refine CW.condN rfl (fun ht21 => ?_) (fun ht21 => ?_) | refine CW.cond rfl (fun ht21 => ?_) (fun ht21 => ?_)
  · -- then
    refine CW.skip ?_
    refine hK20 _ _ ?_; try clear hK20 K20
    refine CW.seq fun K22 hK22 => ?_
    refine CW.block ?_
    refine CW.seq fun K23 hK23 => ?_
    refine CW.region ?_
    obtain ⟨y, hy⟩ : ∃ y, cm.ops[i]? = some y := ⟨_, List.getElem?_eq_getElem (by omega)⟩
    obtain ⟨ad, rfl, hmd⟩ := hox _ y hy
    refine WL.val (Y.indexAddrN Tryd.underlying35 rfl rfl sz0_apiOp (by omega)) (by decide) ?_
    refine WL.val (Y.load Tryd.underlying63 rfl (hmd.ext hL13) (sz_apiOp _) rfl) (by decide) ?_
    refine as_apiOp rfl (by simp) (by decide) fun g9 w14 hx14 hg9 hB9 => ?_
    have hM9 := hB9.mem; have hM1 := hM1.ext hx14; have hB1 := hB1.ext hx14
    refine WL.nil ?_
    refine hK23 _ _ ?_; try clear hK23 K23
    refine CW.region ?_
    refine WL.val (Y.move rfl) (by decide) ?_
    refine WL.val (Y.load Tryd.underlying63 rfl hM9 (sz_apiOp _) rfl) (by decide) ?_
    refine WL.call Tryd.func82 rfl rfl rfl ((cop_any _ _ y _ (hA.1.ext hx14) (by have := hmo.n (List.mem_of_getElem? hy); omega) (by simp only [List.length_append, List.nil_append]; omega))) (by simp) ?_; rintro v53 w15 hR15
    have hA2 := hA.trans (hR15.extL hx14)
    have hne2 := hR15.away hB1.lt hne
    have hB2 := hR15.blk hB1 hne
    refine WL.val (Y.assign rfl) (by decide) ?_
    refine WL.nil ?_
    refine hK22 _ _ ?_; try clear hK22 K22
    refine CW.region ?_
    refine WL.val (Y.add rfl rfl ⟨by omega, by omega⟩) (by decide) ?_
    refine WL.val (Y.move rfl) (by decide) ?_
    refine WL.nil ?_
    refine ⟨(i + 1, _), by show mo - (i + 1) < mo - i; omega, (by repeat (first | exact Fr.le.nil | refine Fr.le.cons rfl ?_)), by show i + 1 ≤ mo; omega, ?_, hB2, hne2⟩
    show AppB _ _ _ _ _ _ (_ ++ ((cm.ops.take (i+1)).map opB).flatten)
    rw [flat_take_succ hy, ← List.append_assoc]
    exact hA2
  refine CW.exit ?_
  refine hK17 _ _ ?_; try clear hK17 K17
  refine CW.seq fun K24 hK24 => ?_
  refine CW.region ?_
  refine WL.val (Y.move rfl) (by decide) ?_
  refine WL.val (Y.assign rfl) (by decide) ?_
  refine WL.val (Y.assign rfl) (by decide) ?_
  refine WL.nil ?_
  refine hK24 _ _ ?_; try clear hK24 K24
  refine CW.ret ⟨_, rfl, ?_⟩
  have h0 := mayOk_i hmo
  rw [List.take_of_length_le (by omega)] at hA
  refine ⟨_, by rw [h0], ?_⟩
  rw [if_pos h0, comB, hpl, hol, hPre]
  exact hA
end Go.Proofs.YtjbeooimhoilmaaDoor
/- commit.Decode: the deferred closure and the whole, walked. No condition. -/
namespace Go.Proofs.YtjbeooimhoilmaaDoor
open Go.RowKit Go.Fw Go.Pl
abbrev comZ : List Value := comC (.slice none 0 0) (bs []) (bs []) (.slice none 0 0)
theorem info_com : ∃ i : TypeInfo, Tryd.prog.info? 37 = some i ∧ i.zero = some (.agg comZ.toArray) := by
  have h : (Tryd.prog.info? 37).map (fun i => i.zero) = some (some (.agg comZ.toArray)) := by kernel_rfl
  obtain ⟨i, hi, h⟩ := Option.map_eq_some_iff.1 h
  exact ⟨i, hi, h⟩
def decE (b : List UInt8) : Int := if 131072 < b.length then 3 else match decI b with | .error e => e | .ok _ => 0
def decC (b : List UInt8) : ComD := if 131072 < b.length then ⟨[], bs [], bs [], []⟩ else match decI b with | .error _ => ⟨[], bs [], bs [], []⟩ | .ok c => c
def DecR (b : List UInt8) (w : World) (v : Value) (w' : World) : Prop := ∃ pv ov, v = .tuple #[.agg (comC pv (decC b).author (decC b).note ov).toArray, .int .i64 (decE b)] ∧ Ext w w' ∧ Sl w' digC 32 pv (decC b).parents ∧ Sl w' opC 37 ov (decC b).ops ∧
  (∀ k, pv.ownBlock = some k → w.heap.size ≤ k) ∧ (∀ k, ov.ownBlock = some k → w.heap.size ≤ k)
theorem DecR.zero {b : List UInt8} {w w' : World} {v : Value} {e : Int} (hc : decC b = ⟨[], bs [], bs [], []⟩) (he : decE b = e) (hx : Ext w w') (hv : v = .tuple #[.agg comZ.toArray, .int .i64 e]) : DecR b w v w' := by
  refine ⟨.slice none 0 0, .slice none 0 0, ?_, hx, ?_, ?_, fun k h => by simp [Value.ownBlock] at h, fun k h => by simp [Value.ownBlock] at h⟩
  · rw [hv, hc, he]
  · rw [hc]; exact Sl.nil
  · rw [hc]; exact Sl.nil
theorem one_com {A B : Option Addr} {m c n d : Nat} {au no : ByteArray} : ∀ u ∈ comC (.slice A m c) au no (.slice B n d), u.oneCell' = true := by intro u hu; simp [comC] at hu; rcases hu with rfl | rfl | rfl | rfl <;> rfl
end Go.Proofs.YtjbeooimhoilmaaDoor
/- Rules: a slot whose value is known; a slice out of a constant text. No condition; no program. -/
namespace Go.Fw
open Go.RowKit
section
variable {P : Program} {n : NN} {Φ : Exit → Fr → World → Prop} {fr : Fr} {w : World} {ops : Array Oper} {C S : World → Prop} {Ψ : Fr → Prop}
theorem WL.know {l : List Oper} {d : Nat} {v u : Value} (hg : fr.get d = some v) (h : v = u) (k : WL P ops n Φ l ((d, u) :: fr) w) : WL P ops n Φ l fr w := fun a ha => k a (ha.weaken (Fr.le.cons (by rw [hg, h]) Fr.le.refl))
theorem QL.know {l : List Oper} {d : Nat} {v u : Value} (hg : fr.get d = some v) (h : v = u) (k : QL P ops C n Ψ l ((d, u) :: fr)) : QL P ops C n Ψ l fr := fun a ha => k a (ha.weaken (Fr.le.cons (by rw [hg, h]) Fr.le.refl))
theorem RH.know {fuel : Nat} {listed : Array Bool} {d : Nat} {v u : Value} (hg : fr.get d = some v) (h : v = u) (k : RH P ops S n Φ fuel listed ((d, u) :: fr) w) : RH P ops S n Φ fuel listed fr w := fun a ha => k a (ha.weaken (Fr.le.cons (by rw [hg, h]) Fr.le.refl))
theorem CW.know {c : Code} {d : Nat} {v u : Value} (hg : fr.get d = some v) (h : v = u) (k : CW P c n Φ ((d, u) :: fr) w) : CW P c n Φ fr w := fun a ha => k a (ha.weaken (Fr.le.cons (by rw [hg, h]) Fr.le.refl))
end
end Go.Fw
namespace Go.Proofs.YtjbeooimhoilmaaDoor
open Go.RowKit Go.Fw Go.Pl
theorem as_apiCommit {n : NN} {Φ : Exit → Fr → World → Prop} {fr : Fr} {w : World} {ops : Array Oper} {rest : List Oper} {d : Nat} {x : Operand} {ty ty' : TypeId} {pos pos' : String} {aft aft' : Array Edge} {A B : Option Addr} {m c m' c' : Nat} {au no : ByteArray}
    (hx : ev fr x = some (.agg (comC (.slice A m c) au no (.slice B m' c')).toArray)) (hxd : x ≠ .tmp d) (hd : d < n.1)
    (h : ∀ g w', Ext w w' → w.heap.size ≤ g → Blk w' g 37 (comC (.slice A m c) au no (.slice B m' c')) → WL Tryd.prog ops n Φ rest ((d, .pointer (some ⟨g, 0, none⟩)) :: fr) w') :
    WL Tryd.prog ops n Φ (⟨some d, .alloc 37, ty, pos, aft, none⟩ :: ⟨none, .store 37 (.tmp d) x, ty', pos', aft', none⟩ :: rest) fr w := by
  obtain ⟨i, hi, hz⟩ := info_com
  exact WL.allocStore (zs := comZ) (cs := comC (.slice A m c) au no (.slice B m' c')) hi hz rfl (by have := sz_com; rw [hi] at this; simp at this; rw [this]; rfl) rfl hx hxd rfl one_com hd h
end Go.Proofs.YtjbeooimhoilmaaDoor
/- What must come: the least commit's bytes, and back: small, alive. No condition. -/
namespace Go.Proofs.YtjbeooimhoilmaaDoor
open Go.RowKit Go.Fw Go.Pl
def nilC : ComD := ⟨[], bs [], bs [], []⟩
theorem Sl.one {w : World} {g : Nat} {t : TypeId} {x : OpD} (h : Blk w g t (opC x)) : Sl w opC 37 (.slice (some ⟨g, 0, none⟩) 1 1) [x] := ⟨some ⟨g, 0, none⟩, 1, 1, rfl, rfl, Nat.le_refl _, by unfold maxLen; decide, fun i y hi => by
  cases i with
  | zero =>
    simp at hi; subst hi
    exact ⟨_, rfl, by have := h.mem; simpa [Addr.add] using this⟩
  | succ i => simp at hi⟩
end Go.Proofs.YtjbeooimhoilmaaDoor
/- The plain law of a commit's bytes, there and back: what is written is read, with bytes missing it ends too early, what is read was written so. No condition; no program. -/
namespace Go.Pl
open Go.Fw
abbrev Rdg (α : Type) := List UInt8 → Nat → Except Int (α × Nat)
def Rds {α : Type} (f : Rdg α) (x : α) (e : List UInt8) : Prop :=
  (∀ pre post : List UInt8, f (pre ++ (e ++ post)) pre.length = .ok (x, pre.length + e.length)) ∧ ∀ (pre : List UInt8) (k : Nat), k < e.length → f (pre ++ e.take k) pre.length = .error 8
def Snd {α : Type} (f : Rdg α) (E : α → List UInt8 → Prop) : Prop :=
  ∀ (bs : List UInt8) (at_ : Nat) (x : α) (a : Nat), at_ ≤ bs.length → f bs at_ = .ok (x, a) → at_ ≤ a ∧ a ≤ bs.length ∧ E x ((bs.drop at_).take (a - at_))
def gbind {α β : Type} (f : Rdg α) (h : α → Rdg β) : Rdg β := fun bs at_ => match f bs at_ with
  | .error e => .error e
  | .ok (x, a) => h x bs a
theorem gbind_ok {α β : Type} {f : Rdg α} {h : α → Rdg β} {bs : List UInt8} {at_ a : Nat} {x : α} (e : f bs at_ = .ok (x, a)) : gbind f h bs at_ = h x bs a := by simp only [gbind, e]
theorem gbind_err {α β : Type} {f : Rdg α} {h : α → Rdg β} {bs : List UInt8} {at_ : Nat} {k : Int} (e : f bs at_ = .error k) : gbind f h bs at_ = .error k := by simp only [gbind, e]
theorem Rds.bind {α β : Type} {f : Rdg α} {h : α → Rdg β} {x : α} {y : β} {e1 e2 : List UInt8} (h1 : Rds f x e1) (h2 : Rds (h x) y e2) : Rds (gbind f h) y (e1 ++ e2) := by
  constructor
  · intro pre post
    have a1 := h1.1 pre (e2 ++ post)
    have a2 := h2.1 (pre ++ e1) post
    rw [List.append_assoc e1 e2 post, gbind_ok a1]
    rw [List.append_assoc, List.length_append] at a2
    rw [a2, List.length_append, Nat.add_assoc]
  · intro pre k hk
    rcases Nat.lt_or_ge k e1.length with hlt | hge
    · rw [List.take_append_of_le_length (by omega)]
      exact gbind_err (h1.2 pre k hlt)
    · have a1 := h1.1 pre (e2.take (k - e1.length))
      have ht : (e1 ++ e2).take k = e1 ++ e2.take (k - e1.length) := by rw [List.take_append, List.take_of_length_le hge]
      rw [ht, gbind_ok a1]
      have a2 := h2.2 (pre ++ e1) (k - e1.length) (by rw [List.length_append] at hk; omega)
      rw [List.append_assoc, List.length_append] at a2
      exact a2
theorem cut_join (bs : List UInt8) {a b c : Nat} (h1 : a ≤ b) (h2 : b ≤ c) : (bs.drop a).take (c - a) = (bs.drop a).take (b - a) ++ (bs.drop b).take (c - b) := by
  have e : c - a = (b - a) + (c - b) := by omega
  rw [e, List.take_add, List.drop_drop]
  congr 3
  omega
theorem Snd.bind {α β : Type} {f : Rdg α} {h : α → Rdg β} {E1 : α → List UInt8 → Prop} {E2 : α → β → List UInt8 → Prop} (h1 : Snd f E1) (h2 : ∀ x, Snd (h x) (E2 x)) :
    Snd (gbind f h) (fun y l => ∃ x l1 l2, l = l1 ++ l2 ∧ E1 x l1 ∧ E2 x y l2) := by
  intro bs at_ y a ha hf
  unfold gbind at hf
  split at hf
  · cases hf
  · rename_i x b hb
    obtain ⟨a1, a2, a3⟩ := h1 bs at_ x b ha hb
    obtain ⟨b1, b2, b3⟩ := h2 x bs b y a a2 hf
    exact ⟨by omega, b2, x, _, _, cut_join bs a1 b1, a3, b3⟩
theorem Snd.mono {α : Type} {f : Rdg α} {E F : α → List UInt8 → Prop} (h : Snd f E) (hm : ∀ x l, E x l → F x l) : Snd f F := fun bs at_ x a ha hf => by
  obtain ⟨h1, h2, h3⟩ := h bs at_ x a ha hf
  exact ⟨h1, h2, hm _ _ h3⟩
end Go.Pl
namespace Go.Pl
open Go.Fw
structure OkOp (x : OpD) : Prop where
  ref : refB x.at_ = true
  kind : x.kind = 1 ∨ x.kind = 2
  ins : x.kind = 1 → ¬ (x.left = true ∧ rootB x.at_ = true)
  del : x.kind = 2 → x.left = false ∧ x.byte = 0 ∧ rootB x.at_ = false
  n : x.at_.n ≤ 2000
theorem byte0 {b : UInt8} (h : ¬ (b.toNat : Int) ≠ 0) : b = 0 := by
  have : b.toNat = 0 := by omega
  exact UInt8.toNat_inj.1 this
theorem MayOk.op {c : ComD} (h : MayOk c) {x : OpD} (hx : x ∈ c.ops) : OkOp x := by
  obtain ⟨j, hj⟩ := List.mem_iff_getElem?.1 hx
  have hn := h.n hx
  obtain ⟨h1, h2, h3, h4, _⟩ := rightX_zero (h.right' hj)
  refine ⟨h1, h4, fun hk ⟨a, b⟩ => h2 ⟨hk, a, b⟩, fun hk => ?_, hn.2⟩
  have h3' : ¬ (x.left = true ∨ (x.byte.toNat : Int) ≠ 0 ∨ rootB x.at_ = true) := fun e => h3 ⟨hk, e⟩
  rw [not_or, not_or] at h3'
  exact ⟨by simpa using h3'.1, byte0 h3'.2.1, by simpa using h3'.2.2⟩
end Go.Pl
