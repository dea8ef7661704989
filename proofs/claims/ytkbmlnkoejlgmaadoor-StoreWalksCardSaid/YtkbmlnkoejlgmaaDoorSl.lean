/- The padding of SHA-256: the reference's whole, walked. No condition. -/
import Derived.Test.YtkbmlnkoejlgmaaDoorRq
import Derived.Test.YtkbmlnkoejlgmaaDoorSi
set_option linter.unusedSimpArgs false
set_option linter.unusedVariables false
namespace Go.Pl
open Go.Fw
def padZ (n : Nat) : Nat := (119 - n % 64) % 64
def lenByte (n j : Nat) : UInt8 := UInt8.ofNat (n * 8 / 2 ^ (56 - 8 * j))
def padB (n : Nat) : List UInt8 := 128 :: List.replicate (padZ n) 0 ++ (List.range 8).map (lenByte n)
def wholeB (b : List UInt8) : List UInt8 := b ++ padB b.length
theorem padB_len (n : Nat) : (padB n).length = padZ n + 9 := by simp [padB]
theorem wholeB_len (b : List UInt8) : (wholeB b).length % 64 = 0 := by
  rw [wholeB, List.length_append, padB_len]; unfold padZ; omega
end Go.Pl
namespace Go.Proofs.YtkbmlnkoejlgmaaDoor
open Go.RowKit Go.Fw Go.Pl
abbrev TB : TypeId := 5
theorem sh_q : ∀ j : Nat, j < 8 → IntKind.u64.wrap (8 * (7 - (j : Int))) = ((56 - 8 * j : Nat) : Int) := by decide +kernel
theorem sh_len {n : Nat} (h : n * 8 < 18446744073709551616) : IntKind.u64.wrap (IntKind.u64.wrap (n : Int) * 8) = ((n * 8 : Nat) : Int) := by
  rw [Fw.wrap64, Nat.mod_eq_of_lt (by omega), show ((n : Int) * 8) = ((n * 8 : Nat) : Int) by omega, Fw.wrap64, Nat.mod_eq_of_lt h]
theorem sh_div (p m : Nat) (hm : m ≤ 64) : (p : Int).fdiv (2 ^ (min (m : Int).toNat IntKind.u64.bits)) = ((p / 2 ^ m : Nat) : Int) := by
  have e : min (m : Int).toNat IntKind.u64.bits = m := by rw [Int.toNat_natCast]; exact Nat.min_eq_left hm
  have e2 : ((2 : Int) ^ m) = ((2 ^ m : Nat) : Int) := by simp
  rw [e, e2, Int.fdiv_eq_ediv_of_nonneg _ (Int.natCast_nonneg _), ← Int.natCast_ediv]

theorem whole_any (u : Value) (b : List UInt8) (w : World) (hb : By w u b) (hr : b.length ≤ 140737488351232) : Calls Tryd.prog 41 #[u] w (Ret fun v w' => Own w' TB 1 v (bytesC (wholeB b)) ∧ (∀ k, v.ownBlock = some k → w.heap.size ≤ k) ∧ Ext w w') := by
  obtain ⟨A, m, c, rfl⟩ := hb.lens
  obtain ⟨hm, hmc, hcm⟩ := hb.len
  have hpz : padZ b.length < 64 := by unfold padZ; omega
  refine calls_of_CW 36 [2] [(0, .slice A m c)] Tryd.func41 rfl rfl rfl (by simp) args1 ?_
  have hE : Ext w w := Chg.refl
  refine CW.seq fun K1 hK1 => ?_
  refine CW.region ?_   -- region 0
  refine WL.val (Y.assign rfl) (by decide) ?_   -- t2 := assign c(nilslice)
  refine WL.nil ?_
  refine hK1 _ _ ?_; try clear hK1 K1
  refine CW.seq fun K2 hK2 => ?_
  refine CW.region ?_   -- region 1
  refine WL.st (St.buildSlice0 Tryd.underlying26 sz_uint8) (by decide) fun v6 w1 hR1 => ?_   -- t6 := buildSlice 26 0 []
  obtain ⟨g6, rfl, hg6, hO6, hx1⟩ := hR1
  have hz1 := hx1.size
  have hE := hE.thenExt hx1
  have hfu : ∀ k, (Value.slice (some ⟨g6, 0, none⟩) 0 0).ownBlock = some k → w.heap.size ≤ k := fun k h => by simp [Value.ownBlock] at h; omega
  refine WL.val (Y.move rfl) (by decide) ?_   -- t7 := move t0
  refine WL.st (St.app (xs := []) (ys := b) Tryd.underlying26 Tryd.underlying26 ai_u8 rfl rfl hO6 (Src.by (hb.ext hE)) (by simp; omega)) (by decide) fun v8 w2 hR2 => ?_   -- t8 := call append(t6, t7) : 26,26
  obtain ⟨hO2, hc2, hf2⟩ := hR2
  have hz2 := hc2.size
  have hE := hE.step hc2 (fun k h => hfu k h)
  have hf2 : ∀ k, v8.ownBlock = some k → w.heap.size ≤ k := by
    rcases hf2 with h | h
    · intro k hk; rw [h] at hk; exact hfu k hk
    · intro k hk; have := h k hk; omega
  have hfu := hf2
  have hO2 : Own w2 TB 1 v8 (bytesC b) := by simpa using hO2
  refine WL.st (St.buildSlice rfl (bs1 _)) (by decide) fun v9 w3 hR3 => ?_   -- t9 := buildSlice 26 1 [(0,c(128:u8))]
  obtain ⟨g9, rfl, hg9, hB9, hx3⟩ := hR3
  have hz3 := hx3.size
  have hE := hE.thenExt hx3
  have hO2 := hO2.ext hx3
  refine WL.st (St.app (xs := b) (ys := [128]) Tryd.underlying26 Tryd.underlying26 ai_u8 rfl rfl hO2 (Src.arr (ys := [128]) hB9.mem) (by simp; omega)) (by decide) fun v10 w4 hR4 => ?_   -- t10 := call append(t8, t9) : 26,26
  obtain ⟨hO4, hc4, hf4⟩ := hR4
  have hz4 := hc4.size
  have hE := hE.step hc4 (fun k h => hfu k h)
  have hf4 : ∀ k, v10.ownBlock = some k → w.heap.size ≤ k := by
    rcases hf4 with h | h
    · intro k hk; rw [h] at hk; exact hfu k hk
    · intro k hk; have := h k hk; omega
  have hfu := hf4
  refine WL.val (Y.assign rfl) (by decide) ?_   -- t3 := assign t10
  refine WL.nil ?_
  refine hK2 _ _ ?_; try clear hK2 K2
  refine CW.seq fun K3 hK3 => ?_
  refine CW.block ?_   -- block 0
  refine CW.loop (X := Nat × Value) (fun x => [(0, .slice A m c), (3, x.2)]) (fun x w0 => x.1 ≤ padZ b.length ∧ Ext w w0 ∧ Own w0 TB 1 x.2 (bytesC (b ++ 128 :: List.replicate x.1 0)) ∧ (∀ k, x.2.ownBlock = some k → w.heap.size ≤ k)) (fun x => padZ b.length - x.1) (0, v10) (by repeat (first | exact Fr.le.nil | refine Fr.le.cons rfl ?_)) ⟨Nat.zero_le _, hE, by simpa using hO4, hfu⟩ ?_
  intro x w5 hl5
  clear hO4 hO2 hfu hE
  obtain ⟨x, u⟩ := x
  dsimp only at hl5 ⊢
  obtain ⟨hx, hE, hO, hfu⟩ := hl5
  obtain ⟨B, mb, cb, rfl⟩ := hO.lens
  have hlm := hO.by.len.1
  simp only [List.length_append, List.length_cons, List.length_replicate] at hlm
  have hz5 := hE.size
  refine CW.seq fun K4 hK4 => ?_
  refine CW.seq fun K5 hK5 => ?_
  refine CW.region ?_   -- region 2
  refine WL.val (Y.move rfl) (by decide) ?_   -- t11 := move t3
  refine WL.val (Y.len_slice Tryd.underlying26 rfl) (by decide) ?_   -- t12 := call len(t11) : 26
  refine WL.val (Y.remN (q := 64) rfl rfl (by decide)) (by decide) ?_   -- t13 := binOp rem 3 t12 c(64:i64) 3
  refine WL.val (Y.neq rfl rfl) (by decide) ?_   -- t14 := binOp neq 3 t13 c(56:i64) 3
  refine WL.nil ?_
  refine hK5 _ _ ?_; try clear hK5 K5
  first | refine CW.condD rfl (fun ht6 => ?_) (fun ht6 => ?_) | refine CW.condND rfl (fun ht6 => ?_) (fun ht6 => ?_) | refine CW.condN rfl (fun ht6 => ?_) (fun ht6 => ?_) | refine CW.cond rfl (fun ht6 => ?_) (fun ht6 => ?_)
  · -- then
    refine CW.skip ?_
    refine hK4 _ _ ?_; try clear hK4 K4
    refine CW.block ?_   -- block 1
    refine CW.region ?_   -- region 3
    refine WL.val (Y.move rfl) (by decide) ?_   -- t15 := move t3
    refine WL.st (St.buildSlice rfl (bs1 _)) (by decide) fun v16 w6 hR6 => ?_   -- t16 := buildSlice 26 1 [(0,c(0:u8))]
    obtain ⟨g16, rfl, hg16, hB16, hx6⟩ := hR6
    have hz6 := hx6.size
    have hE := hE.thenExt hx6
    have hO := hO.ext hx6
    refine WL.st (St.app (xs := b ++ 128 :: List.replicate x 0) (ys := [0]) Tryd.underlying26 Tryd.underlying26 ai_u8 rfl rfl hO (Src.arr (ys := [0]) hB16.mem) (by simp; omega)) (by decide) fun v17 w7 hR7 => ?_   -- t17 := call append(t15, t16) : 26,26
    obtain ⟨hO7, hc7, hf7⟩ := hR7
    have hz7 := hc7.size
    have hE := hE.step hc7 (fun k h => hfu k h)
    have hf7 : ∀ k, v17.ownBlock = some k → w.heap.size ≤ k := by
      rcases hf7 with h | h
      · intro k hk; rw [h] at hk; exact hfu k hk
      · intro k hk; have := h k hk; omega
    have hfu := hf7
    refine WL.val (Y.assign rfl) (by decide) ?_   -- t3 := assign t17
    refine WL.nil ?_
    have hlt : x < padZ b.length := by unfold padZ at hx ⊢; omega
    refine ⟨(x + 1, v17), by show padZ b.length - (x + 1) < padZ b.length - x; omega, (by repeat (first | exact Fr.le.nil | refine Fr.le.cons rfl ?_)), by show x + 1 ≤ padZ b.length; omega, hE, ?_, hf7⟩
    show Own _ TB 1 v17 (bytesC (b ++ 128 :: List.replicate (x + 1) 0))
    rw [List.replicate_succ', ← List.cons_append, ← List.append_assoc]
    exact hO7
  -- else
  refine CW.exit ?_   -- exit 0
  refine hK3 _ _ ?_; try clear hK3 K3
  refine CW.seq fun K7 hK7 => ?_
  refine CW.region ?_   -- region 4
  refine WL.val (Y.move rfl) (by decide) ?_   -- t18 := move t0
  refine WL.val (Y.len_slice Tryd.underlying26 rfl) (by decide) ?_   -- t19 := call len(t18) : 26
  refine WL.val (Y.conv_int Tryd.underlying3 Tryd.underlying80 rfl) (by decide) ?_   -- t20 := convert 3 80 t19
  refine WL.val (Y.mul_k rfl rfl) (by decide) ?_   -- t21 := binOp mul 80 t20 c(8:u64) 80
  refine WL.val (Y.assign rfl) (by decide) ?_   -- t4 := assign t21
  refine WL.nil ?_
  refine hK7 _ _ ?_; try clear hK7 K7
  refine CW.seq fun K8 hK8 => ?_
  refine CW.seq fun K9 hK9 => ?_
  refine CW.region ?_   -- region 5
  refine WL.val (Y.assign rfl) (by decide) ?_   -- t5 := assign c(7:i64)
  refine WL.nil ?_
  refine hK9 _ _ ?_; try clear hK9 K9
  refine CW.block ?_   -- block 2
  refine CW.loop (X := Nat × Value) (fun x => [(3, x.2), (4, .int .u64 ((b.length * 8 : Nat) : Int)), (5, .int .i64 (7 - (x.1 : Int)))]) (fun x w0 => x.1 ≤ 8 ∧ Ext w w0 ∧ Own w0 TB 1 x.2 (bytesC (b ++ (128 :: List.replicate (padZ b.length) 0 ++ (List.range x.1).map (lenByte b.length)))) ∧ (∀ k, x.2.ownBlock = some k → w.heap.size ≤ k)) (fun x => 8 - x.1) (0, .slice B mb cb) (by show Fr.le [(3, .slice B mb cb), (4, .int .u64 ((b.length * 8 : Nat) : Int)), (5, .int .i64 (7 - ((0 : Nat) : Int)))] _; rw [← sh_len (n := b.length) (by omega), hm]; exact (by repeat (first | exact Fr.le.nil | refine Fr.le.cons rfl ?_))) ⟨Nat.zero_le _, hE, (by rw [show x = padZ b.length by (unfold padZ at hx ⊢; omega)] at hO; simpa using hO), hfu⟩ ?_
  intro x w8 hl8
  clear hO hfu hE hx
  obtain ⟨x, u⟩ := x
  dsimp only at hl8 ⊢
  obtain ⟨hx, hE, hO, hfu⟩ := hl8
  obtain ⟨B, mb, cb, rfl⟩ := hO.lens
  have hlm := hO.by.len.1
  simp only [List.length_append, List.length_cons, List.length_replicate, List.length_map, List.length_range] at hlm
  have hz8 := hE.size
  refine CW.seq fun K10 hK10 => ?_
  refine CW.seq fun K11 hK11 => ?_
  refine CW.region ?_   -- region 6
  refine WL.val (Y.move rfl) (by decide) ?_   -- t22 := move t5
  refine WL.val (Y.geq rfl rfl) (by decide) ?_   -- t23 := binOp geq 3 t22 c(0:i64) 3
  refine WL.nil ?_
  refine hK11 _ _ ?_; try clear hK11 K11
  first | refine CW.condD rfl (fun ht12 => ?_) (fun ht12 => ?_) | refine CW.condND rfl (fun ht12 => ?_) (fun ht12 => ?_) | refine CW.condN rfl (fun ht12 => ?_) (fun ht12 => ?_) | refine CW.cond rfl (fun ht12 => ?_) (fun ht12 => ?_)
  · -- then
    refine CW.skip ?_
    refine hK10 _ _ ?_; try clear hK10 K10
    refine CW.seq fun K13 hK13 => ?_
    refine CW.block ?_   -- block 3
    refine CW.region ?_   -- region 8
    refine WL.val (Y.move rfl) (by decide) ?_   -- t26 := move t3
    refine WL.val (Y.move rfl) (by decide) ?_   -- t27 := move t4
    refine WL.val (Y.move rfl) (by decide) ?_   -- t28 := move t5
    refine WL.val (Y.mul rfl rfl ⟨by omega, by omega⟩) (by decide) ?_   -- t29 := binOp mul 3 c(8:i64) t28 3
    refine WL.val (Y.conv_int Tryd.underlying3 Tryd.underlying81 rfl) (by decide) ?_   -- t30 := convert 3 81 t29
    refine WL.val (Y.shr rfl rfl (r := ((b.length * 8 / 2 ^ (56 - 8 * x) : Nat) : Int)) (by rw [sh_q x (by omega)]; exact Int.natCast_nonneg _) (by rw [sh_q x (by omega)]; exact sh_div _ _ (by omega))) (by decide) ?_   -- t31 := binOp shr 80 t27 t30 81
    refine WL.val (Y.conv_int Tryd.underlying80 Tryd.underlying5 rfl) (by decide) ?_   -- t32 := convert 80 5 t31
    refine WL.st (St.buildSlice rfl (bs1 _)) (by decide) fun v33 w9 hR9 => ?_   -- t33 := buildSlice 26 1 [(0,t32)]
    obtain ⟨g33, rfl, hg33, hB33, hx9⟩ := hR9
    have hz9 := hx9.size
    have hE := hE.thenExt hx9
    have hO := hO.ext hx9
    rw [u8_of] at hB33
    refine WL.st (St.app (ys := [lenByte b.length x]) Tryd.underlying26 Tryd.underlying26 ai_u8 rfl rfl hO (Src.arr (ys := [lenByte b.length x]) hB33.mem) (by simp; omega)) (by decide) fun v34 w10 hR10 => ?_   -- t34 := call append(t26, t33) : 26,26
    obtain ⟨hO10, hc10, hf10⟩ := hR10
    have hz10 := hc10.size
    have hE := hE.step hc10 (fun k h => hfu k h)
    have hf10 : ∀ k, v34.ownBlock = some k → w.heap.size ≤ k := by
      rcases hf10 with h | h
      · intro k hk; rw [h] at hk; exact hfu k hk
      · intro k hk; have := h k hk; omega
    have hfu := hf10
    refine WL.val (Y.assign rfl) (by decide) ?_   -- t3 := assign t34
    refine WL.nil ?_
    refine hK13 _ _ ?_; try clear hK13 K13
    refine CW.region ?_   -- region 7
    refine WL.val (Y.move rfl) (by decide) ?_   -- t24 := move t5
    refine WL.val (Y.sub rfl rfl ⟨by omega, by omega⟩) (by decide) ?_   -- t25 := binOp sub 3 t24 c(1:i64) 3
    refine WL.val (Y.assign rfl) (by decide) ?_   -- t5 := assign t25
    refine WL.nil ?_
    have e : ((7 - ((x + 1 : Nat) : Int)) : Int) = 7 - (x : Int) - 1 := by omega
    refine ⟨(x + 1, v34), by show 8 - (x + 1) < 8 - x; omega, ?_, by show x + 1 ≤ 8; omega, hE, ?_, hf10⟩
    · show Fr.le [(3, v34), (4, .int .u64 ((b.length * 8 : Nat) : Int)), (5, .int .i64 (7 - ((x + 1 : Nat) : Int)))] _
      rw [e]
      exact (by repeat (first | exact Fr.le.nil | refine Fr.le.cons rfl ?_))
    · show Own _ TB 1 v34 (bytesC (b ++ (128 :: List.replicate (padZ b.length) 0 ++ (List.range (x + 1)).map (lenByte b.length))))
      rw [List.range_succ, List.map_append, ← List.append_assoc, ← List.append_assoc]
      simpa using hO10
  -- else
  refine CW.exit ?_   -- exit 2
  refine hK8 _ _ ?_; try clear hK8 K8
  refine CW.seq fun K14 hK14 => ?_
  refine CW.region ?_   -- region 9
  refine WL.val (Y.move rfl) (by decide) ?_   -- t35 := move t3
  refine WL.val (Y.assign rfl) (by decide) ?_   -- t2 := assign t35
  refine WL.nil ?_
  refine hK14 _ _ ?_; try clear hK14 K14
  refine CW.ret ⟨_, rfl, ?_⟩
  refine ⟨?_, hfu, hE⟩
  rw [show x = 8 by omega] at hO
  exact hO
end Go.Proofs.YtkbmlnkoejlgmaaDoor
