/- (*Hash).Sum, walked. No condition. -/
import Derived.Test.YtkbmlnkoejlgmaaDoorSt
set_option linter.unusedSimpArgs false
set_option linter.unusedVariables false
namespace Go.Pl
open Go.Fw
theorem digB_at (v : V8) (x j : Nat) (hj : j < 4) : digB v (4 * x + j) = (v.ws.getD x 0 >>> UInt32.ofNat (24 - 8 * j)).toUInt8 := by
  rw [digB, show (4 * x + j) / 4 = x by omega, show (4 * x + j) % 4 = j by omega]
theorem digB_at0 (v : V8) (x : Nat) : digB v (4 * x) = (v.ws.getD x 0 >>> UInt32.ofNat 24).toUInt8 := digB_at v x 0 (by decide)
theorem digB_at3 (v : V8) (x : Nat) : digB v (4 * x + 3) = (v.ws.getD x 0).toUInt8 := by
  rw [digB_at v x 3 (by decide)]
  congr 1
theorem dig_put (v : V8) {i : Nat} (h : i < 32) : bytesC ((List.range i).map (digB v) ++ List.replicate (32 - i) 0) = bytesC ((List.range i).map (digB v)) ++ [bc 0] ++ bytesC (List.replicate (31 - i) 0) := dig_split h _
theorem dig_new (v : V8) {i : Nat} : bytesC ((List.range (i + 1)).map (digB v) ++ List.replicate (32 - (i + 1)) 0) = bytesC ((List.range i).map (digB v)) ++ [bc (digB v i)] ++ bytesC (List.replicate (31 - i) 0) := by
  rw [List.range_succ, List.map_append, show 32 - (i + 1) = 31 - i by omega, bytesC_append, bytesC_append]; rfl
end Go.Pl
namespace Go.Proofs.YtkbmlnkoejlgmaaDoor
open Go.RowKit Go.Fw Go.Pl

set_option maxRecDepth 20000 in
set_option maxHeartbeats 2000000 in
theorem hsum_any (g : Nat) (xs rest : List UInt8) (w : World) (hB : Blk w g TH (hashC (blocksN xs (xs.length / 64)) rest xs.length)) (hR : RestOf xs rest) (hK : Mem w ⟨0, 0, none⟩ (wds keysL)) (hN : xs.length ≤ 140737488351232) : Calls Tryd.prog 26 #[.pointer (some ⟨g, 0, none⟩)] w (Ret fun v w' => v = digV (shaD xs) ∧ Ext w w') := by
  have hk0 : (0 : Nat) < w.heap.size := hK.lt (fun h => by cases h)
  have hpz : padZ xs.length < 64 := by unfold padZ; omega
  obtain ⟨id, hid, hzd, _⟩ := info_apiDigest
  refine calls_of_CWc 92 2 32 [(0, .pointer (some ⟨g, 0, none⟩))] Tryd.func26 rfl rfl rfl Tryd.underlying28 rfl (by kernel_rfl) (by simp) args1 ?_
  have hE : Ext w w := Chg.refl
  refine CW.seq fun K1 hK1 => ?_
  refine CW.region ?_   -- region 0
  refine WL.alloc (hid) (hzd) rfl (by decide) fun g2 w1 hx1 hg2 hB2 => ?_   -- t2 := alloc 28
  have hlt2 := hB2.lt; have hz1 := hx1.size
  have hM2 := hB2.mem; have hz1 := hx1.size; have hE := hE.thenExt hx1
  refine WL.nil ?_
  refine hK1 _ _ ?_; try clear hK1 K1
  refine CW.seq fun K2 hK2 => ?_
  refine CW.region ?_   -- region 1
  refine WL.alloc (hid) (hzd) rfl (by decide) fun g3 w2 hx2 hg3 hB3 => ?_   -- t3 := alloc 28
  have hlt3 := hB3.lt; have hz2 := hx2.size
  have hM3 := hB3.mem; have hz2 := hx2.size; have hE := hE.thenExt hx2; have hB2 := hB2.ext hx2
  refine WL.nil ?_
  refine hK2 _ _ ?_; try clear hK2 K2
  refine CW.seq fun K3 hK3 => ?_
  refine CW.seq_test 17 (False) ?_ ?_
  · refine CW.region ?_
    refine WL.val (Y.move rfl) (by decide) ?_   -- t9 := move t0
    refine WL.val (Y.eql_digestHash rfl rfl) (by decide) ?_   -- t10 := binOp eql 61 t9 c(['Go.Value.pointer', 'none']) 61
    refine WL.val (Y.move rfl) (by decide) ?_   -- t11 := move t10
    first | refine WL.casesD (d := 11) rfl (fun hg11 => ?_) (fun hg11 => ?_) | refine WL.casesND (d := 11) rfl (fun hg11 => ?_) (fun hg11 => ?_) | refine WL.cases (d := 11) rfl (fun hg11 => ?_) (fun hg11 => ?_)
    · -- t11 = T
      refine WL.goff rfl rfl (by decide) ?_   -- t12 := move t0 [if 2=false]
      refine WL.goff rfl rfl (by decide) ?_   -- t13 := nilCheck t12 [if 2=false]
      refine WL.goff rfl rfl (by decide) ?_   -- t14 := fieldAddr 78 t13 0 [if 2=false]
      refine WL.goff rfl rfl (by decide) ?_   -- t15 := load 4 t14 [if 2=false]
      refine WL.goff rfl rfl (by decide) ?_   -- t16 := unOp not 4 t15 [if 2=false]
      refine WL.val (Y.pick rfl rfl) (by decide) ?_   -- t17 := pick t11 c(true) t16
      refine WL.nil ⟨⟨_, rfl, ?_⟩, rfl, (by repeat (first | exact Fr.le.refl | refine Fr.le.push rfl ?_))⟩
      first | (simp only [*, Bool.not_eq_true', decide_eq_false_iff_not, decide_eq_true_eq, not_true_eq_false, not_false_eq_true, true_and, false_and, and_true, and_false, false_or, or_false, true_or, or_true, iff_true, true_iff, iff_false, false_iff]; done) | (simp_all; done) | (refine congrArg Value.bool (Bool.eq_iff_iff.2 ?_); simp_all; done) | (simp_all; omega)
    · -- t11 = F
      refine WL.gval rfl rfl (Y.move rfl) (by decide) ?_   -- t12 := move t0 [if 2=false]
      refine WL.gval rfl rfl (Y.nilCheck rfl) (by decide) ?_   -- t13 := nilCheck t12 [if 2=false]
      refine WL.gval rfl rfl (Y.fieldAddr fo_digestHash0 rfl) (by decide) ?_   -- t14 := fieldAddr 78 t13 0 [if 2=false]
      refine WL.gval rfl rfl (Y.load1 Tryd.underlying4 rfl (Mem.digestHash0 (hB.ext hE).mem) rfl) (by decide) ?_   -- t15 := load 4 t14 [if 2=false]
      refine WL.gval rfl rfl (Y.not rfl) (by decide) ?_   -- t16 := unOp not 4 t15 [if 2=false]
      refine WL.val (Y.pick rfl rfl) (by decide) ?_   -- t17 := pick t11 c(true) t16
      refine WL.nil ⟨⟨_, rfl, ?_⟩, rfl, (by repeat (first | exact Fr.le.refl | refine Fr.le.push rfl ?_))⟩
      first | (simp only [*, Bool.not_eq_true', decide_eq_false_iff_not, decide_eq_true_eq, not_true_eq_false, not_false_eq_true, true_and, false_and, and_true, and_false, false_or, or_false, true_or, or_true, iff_true, true_iff, iff_false, false_iff]; done) | (simp_all; done) | (refine congrArg Value.bool (Bool.eq_iff_iff.2 ?_); simp_all; done) | (simp_all; omega)
  first | refine CW.condD rfl (fun ht4 => ?_) (fun ht4 => ?_) | refine CW.condND rfl (fun ht4 => ?_) (fun ht4 => ?_) | refine CW.condN rfl (fun ht4 => ?_) (fun ht4 => ?_) | refine CW.cond rfl (fun ht4 => ?_) (fun ht4 => ?_)
  · -- then
    refine CW.seq fun K5 hK5 => ?_
    refine CW.region ?_   -- region 3
    refine WL.val (Y.load Tryd.underlying28 rfl hB3.mem (sz_apiDigest _) rfl) (by decide) ?_   -- t18 := load 28 t3
    refine WL.store (g := g2) (pre := []) (old := digC Dig.zero) (post := []) (new := digC Dig.zero) rfl rfl rfl rfl (sz_apiDigest _) (by simpa using hB2) (by first | (simp only [List.length_cons, List.length_nil, List.length_map, List.length_replicate, V8.ws, digC_length]; done) | rfl | (simp [digC_length, opC_length]; done) | (simp only [digC_length, opC_length]; omega)) (one_digC) (fun w3 hc3 hB3_ => ?_)   -- _ := store 28 t2 t18
    have hz3 := hc3.size; have hE := hE.step hc3 (fun k h => by omega); have hB3 := hB3.chg hc3 (fun h => by omega)
    skip
    refine WL.nil ?_
    refine hK5 _ _ ?_; try clear hK5 K5
    refine CW.ret ?_
    exact False.elim (by assumption)
  -- else
  refine CW.skip ?_
  refine hK3 _ _ ?_; try clear hK3 K3
  refine CW.seq fun K6 hK6 => ?_
  refine CW.region ?_   -- region 4
  refine WL.val (Y.move rfl) (by decide) ?_   -- t19 := move t0
  refine WL.val (Y.nilCheck rfl) (by decide) ?_   -- t20 := nilCheck t19
  refine WL.val (Y.load Tryd.underlying78 rfl (hB.ext hE).mem (sz_digestHash hR.1) rfl) (by decide) ?_   -- t21 := load 78 t20
  refine as_digestHash hR.1 rfl (by simp) (by decide) fun g4 w4 hx4 hg4 hB4 => ?_   -- alloc 78; store 78 t4 t21
  have hlt4 := hB4.lt; have hz4 := hx4.size
  have hM4 := hB4.mem; have hz4 := hx4.size; have hE := hE.thenExt hx4; have hB2 := hB2.ext hx4; have hB3 := hB3.ext hx4
  refine WL.nil ?_
  refine hK6 _ _ ?_; try clear hK6 K6
  refine CW.seq fun K7 hK7 => ?_
  refine CW.region ?_   -- region 5
  refine WL.st (St.make128) (by decide) fun v22 w5 hR5 => ?_   -- t22 := makeSlice 26 c(1:i64) c(128:i64)
  obtain ⟨g22, rfl, hg22, hO, hx5⟩ := hR5
  have hz5 := hx5.size
  have hE := hE.thenExt hx5
  have hB2 := hB2.ext hx5
  have hB3 := hB3.ext hx5
  have hB4 := hB4.ext hx5
  refine WL.val (Y.assign rfl) (by decide) ?_   -- t5 := assign t22
  refine WL.nil ?_
  refine hK7 _ _ ?_; try clear hK7 K7
  refine CW.seq fun K8 hK8 => ?_
  refine CW.region ?_   -- region 6
  refine WL.val (Y.move rfl) (by decide) ?_   -- t23 := move t5
  refine WL.val (Y.indexAddrN Tryd.underlying26 rfl rfl sz0_uint8 (i := 0) (by decide)) (by decide) ?_   -- t24 := indexAddr 26 t23 c(0:i64)
  refine WL.storeO (g := g22) (pre := []) (old := bytesC [0]) (post := []) (new := bytesC [128]) rfl (by rw [add_zero']; rfl) rfl rfl (by kernel_rfl) (by simpa using hO) (by first | (simp only [List.length_cons, List.length_nil, List.length_map, List.length_replicate, V8.ws, digC_length]; done) | rfl | (simp [digC_length, opC_length]; done) | (simp only [digC_length, opC_length]; omega)) (one_bytesC) (fun w6 hc6 hB6_ => ?_)   -- _ := store 5 t24 c(128:u8)
  have hz6 := hc6.size; have hE := hE.step hc6 (fun k h => by omega); have hB2 := hB2.chg hc6 (fun h => by omega); have hB3 := hB3.chg hc6 (fun h => by omega); have hB4 := hB4.chg hc6 (fun h => by omega)
  have hO : Own w6 TB 1 (.slice (some ⟨g22, 0, none⟩) 1 128) (bytesC [128]) := by simpa using hB6_
  have hfu : ∀ k, (Value.slice (some ⟨g22, 0, none⟩) 1 128).ownBlock = some k → w4.heap.size ≤ k := fun k h => by simp [Value.ownBlock] at h; omega
  refine WL.nil ?_
  refine hK8 _ _ ?_; try clear hK8 K8
  refine CW.seq fun K9 hK9 => ?_
  refine CW.block ?_   -- block 0
  refine CW.loop (X := Nat × Value) (fun x => [(0, .pointer (some ⟨g, 0, none⟩)), (2, .pointer (some ⟨g2, 0, none⟩)), (3, .pointer (some ⟨g3, 0, none⟩)), (4, .pointer (some ⟨g4, 0, none⟩)), (5, x.2)]) (fun x w0 => x.1 ≤ padZ xs.length ∧ Ext w w0 ∧ Blk w0 g2 TDi (digC Dig.zero) ∧ Blk w0 g3 TDi (digC Dig.zero) ∧ Blk w0 g4 TH (hashC (blocksN xs (xs.length / 64)) rest xs.length) ∧ Own w0 TB 1 x.2 (bytesC (128 :: List.replicate x.1 0)) ∧ (∀ k, x.2.ownBlock = some k → w4.heap.size ≤ k) ∧ w4.heap.size ≤ w0.heap.size) (fun x => padZ xs.length - x.1) (0, .slice (some ⟨g22, 0, none⟩) 1 128) (by repeat (first | exact Fr.le.nil | refine Fr.le.cons rfl ?_)) ⟨Nat.zero_le _, hE, hB2, hB3, hB4, hO, hfu, by show w4.heap.size ≤ _; omega⟩ ?_
  intro x w7 hl7
  clear hE hB2 hB3 hB4 hO hfu
  obtain ⟨x, u⟩ := x
  dsimp only at hl7 ⊢
  obtain ⟨hx, hE, hB2, hB3, hB4, hO, hfu, hzz⟩ := hl7
  obtain ⟨B, mb, cb, rfl⟩ := hO.lens
  have hlm := hO.by.len.1
  simp only [List.length_cons, List.length_replicate] at hlm
  have hz7 := hE.size
  refine CW.seq fun K10 hK10 => ?_
  refine CW.seq fun K11 hK11 => ?_
  refine CW.region ?_   -- region 7
  refine WL.val (Y.move rfl) (by decide) ?_   -- t25 := move t0
  refine WL.val (Y.nilCheck rfl) (by decide) ?_   -- t26 := nilCheck t25
  refine WL.val (Y.fieldAddr fo_digestHash3 rfl) (by decide) ?_   -- t27 := fieldAddr 78 t26 3
  refine WL.val (Y.load1 Tryd.underlying3 rfl (Mem.digestHash3 hR.1 (hB.ext hE).mem) rfl) (by decide) ?_   -- t28 := load 3 t27
  refine WL.val (Y.move rfl) (by decide) ?_   -- t29 := move t5
  refine WL.val (Y.len_slice Tryd.underlying26 rfl) (by decide) ?_   -- t30 := call len(t29) : 26
  refine WL.val (Y.add rfl rfl ⟨by omega, by omega⟩) (by decide) ?_   -- t31 := binOp add 3 t28 t30 3
  refine WL.val (Y.add rfl rfl ⟨by omega, by omega⟩) (by decide) ?_   -- t32 := binOp add 3 t31 c(8:i64) 3
  refine WL.val (Y.remN (p := xs.length + mb + 8) (q := 64) rfl rfl (by decide)) (by decide) ?_   -- t33 := binOp rem 3 t32 c(64:i64) 3
  refine WL.val (Y.neq rfl rfl) (by decide) ?_   -- t34 := binOp neq 3 t33 c(0:i64) 3
  refine WL.nil ?_
  refine hK11 _ _ ?_; try clear hK11 K11
  first | refine CW.condD rfl (fun ht12 => ?_) (fun ht12 => ?_) | refine CW.condND rfl (fun ht12 => ?_) (fun ht12 => ?_) | refine CW.condN rfl (fun ht12 => ?_) (fun ht12 => ?_) | refine CW.cond rfl (fun ht12 => ?_) (fun ht12 => ?_)
  · -- then
    refine CW.skip ?_
    refine hK10 _ _ ?_; try clear hK10 K10
    refine CW.block ?_   -- block 1
    refine CW.region ?_   -- region 8
    refine WL.val (Y.move rfl) (by decide) ?_   -- t35 := move t5
    refine WL.st (St.buildSlice rfl (bs1 _)) (by decide) fun v36 w8 hR8 => ?_   -- t36 := buildSlice 26 1 [(0,c(0:u8))]
    obtain ⟨g36, rfl, hg36, hB36, hx8⟩ := hR8
    have hz8 := hx8.size
    have hE := hE.thenExt hx8
    have hB2 := hB2.ext hx8
    have hB3 := hB3.ext hx8
    have hB4 := hB4.ext hx8
    have hO := hO.ext hx8
    refine WL.st (St.app (xs := 128 :: List.replicate x 0) (ys := [0]) Tryd.underlying26 Tryd.underlying26 ai_u8 rfl rfl hO (Src.arr (ys := [0]) hB36.mem) (by simp; omega)) (by decide) fun v37 w9 hR9 => ?_   -- t37 := call append(t35, t36) : 26,26
    obtain ⟨hO9, hc9, hf9⟩ := hR9
    have hz9 := hc9.size
    have hE := hE.step hc9 (fun k h => by have := hfu k h; omega)
    have hB2 := hB2.chg hc9 (fun h => by have := hfu _ h; omega)
    have hB3 := hB3.chg hc9 (fun h => by have := hfu _ h; omega)
    have hB4 := hB4.chg hc9 (fun h => by have := hfu _ h; omega)
    have hf9 : ∀ k, v37.ownBlock = some k → w4.heap.size ≤ k := by
      rcases hf9 with h | h
      · intro k hk; rw [h] at hk; exact hfu k hk
      · intro k hk; have := h k hk; omega
    refine WL.val (Y.assign rfl) (by decide) ?_   -- t5 := assign t37
    refine WL.nil ?_
    have hlt : x < padZ xs.length := by unfold padZ at hx ⊢; omega
    refine ⟨(x + 1, v37), by show padZ xs.length - (x + 1) < padZ xs.length - x; omega, (by repeat (first | exact Fr.le.nil | refine Fr.le.cons rfl ?_)), by show x + 1 ≤ padZ xs.length; omega, hE, hB2, hB3, hB4, ?_, hf9, by omega⟩
    show Own _ TB 1 v37 (bytesC (128 :: List.replicate (x + 1) 0))
    rw [List.replicate_succ', ← List.cons_append]
    exact hO9
  -- else
  refine CW.exit ?_   -- exit 0
  refine hK9 _ _ ?_; try clear hK9 K9
  refine CW.seq fun K13 hK13 => ?_
  refine CW.seq fun K14 hK14 => ?_
  refine CW.region ?_   -- region 9
  refine WL.val (Y.move rfl) (by decide) ?_   -- t38 := move c(0:i64)
  refine WL.nil ?_
  refine hK14 _ _ ?_; try clear hK14 K14
  refine CW.block ?_   -- block 2
  refine CW.loop (X := Nat × Value) (fun x => [(0, .pointer (some ⟨g, 0, none⟩)), (2, .pointer (some ⟨g2, 0, none⟩)), (3, .pointer (some ⟨g3, 0, none⟩)), (4, .pointer (some ⟨g4, 0, none⟩)), (5, x.2), (38, .int .i64 (x.1 : Int))]) (fun x w0 => x.1 ≤ 8 ∧ Ext w w0 ∧ Blk w0 g2 TDi (digC Dig.zero) ∧ Blk w0 g3 TDi (digC Dig.zero) ∧ Blk w0 g4 TH (hashC (blocksN xs (xs.length / 64)) rest xs.length) ∧ Own w0 TB 1 x.2 (bytesC (128 :: List.replicate (padZ xs.length) 0 ++ (List.range x.1).map (lenByte xs.length))) ∧ (∀ k, x.2.ownBlock = some k → w4.heap.size ≤ k) ∧ w4.heap.size ≤ w0.heap.size) (fun x => 8 - x.1) (0, .slice B mb cb) (by repeat (first | exact Fr.le.nil | refine Fr.le.cons rfl ?_)) ⟨Nat.zero_le _, hE, hB2, hB3, hB4, (by rw [show x = padZ xs.length by (unfold padZ at hx ⊢; omega)] at hO; simpa using hO), hfu, hzz⟩ ?_
  intro x w10 hl10
  clear hE hB2 hB3 hB4 hO hfu hzz hx
  obtain ⟨x, u⟩ := x
  dsimp only at hl10 ⊢
  obtain ⟨hx, hE, hB2, hB3, hB4, hO, hfu, hzz⟩ := hl10
  obtain ⟨B, mb, cb, rfl⟩ := hO.lens
  have hlm := hO.by.len.1
  simp only [List.length_append, List.length_cons, List.length_replicate, List.length_map, List.length_range] at hlm
  have hz10 := hE.size
  refine CW.seq fun K15 hK15 => ?_
  refine CW.region ?_   -- region 10
  refine WL.val (Y.lss rfl rfl) (by decide) ?_   -- t39 := binOp lss 3 t38 c(8:i64) 3
  refine WL.nil ?_
  refine hK15 _ _ ?_; try clear hK15 K15
  refine CW.seq fun K16 hK16 => ?_
  first | refine CW.condD rfl (fun ht17 => ?_) (fun ht17 => ?_) | refine CW.condND rfl (fun ht17 => ?_) (fun ht17 => ?_) | refine CW.condN rfl (fun ht17 => ?_) (fun ht17 => ?_) | refine CW.cond rfl (fun ht17 => ?_) (fun ht17 => ?_)
  · -- then
    refine CW.skip ?_
    refine hK16 _ _ ?_; try clear hK16 K16
    refine CW.seq fun K18 hK18 => ?_
    refine CW.block ?_   -- block 3
    refine CW.seq fun K19 hK19 => ?_
    refine CW.region ?_   -- region 11
    refine WL.val (Y.move rfl) (by decide) ?_   -- t40 := move t38
    refine WL.val (Y.assign rfl) (by decide) ?_   -- t6 := assign t40
    refine WL.nil ?_
    refine hK19 _ _ ?_; try clear hK19 K19
    refine CW.region ?_   -- region 12
    refine WL.val (Y.move rfl) (by decide) ?_   -- t41 := move t5
    refine WL.val (Y.move rfl) (by decide) ?_   -- t42 := move t0
    refine WL.val (Y.nilCheck rfl) (by decide) ?_   -- t43 := nilCheck t42
    refine WL.val (Y.fieldAddr fo_digestHash3 rfl) (by decide) ?_   -- t44 := fieldAddr 78 t43 3
    refine WL.val (Y.load1 Tryd.underlying3 rfl (Mem.digestHash3 hR.1 (hB.ext hE).mem) rfl) (by decide) ?_   -- t45 := load 3 t44
    refine WL.val (Y.conv_int Tryd.underlying3 Tryd.underlying80 rfl) (by decide) ?_   -- t46 := convert 3 80 t45
    refine WL.val (Y.mul_k rfl rfl) (by decide) ?_   -- t47 := binOp mul 80 t46 c(8:u64) 80
    refine WL.val (Y.move rfl) (by decide) ?_   -- t48 := move t6
    refine WL.val (Y.mul rfl rfl ⟨by omega, by omega⟩) (by decide) ?_   -- t49 := binOp mul 3 c(8:i64) t48 3
    refine WL.val (Y.sub rfl rfl ⟨by omega, by omega⟩) (by decide) ?_   -- t50 := binOp sub 3 c(56:i64) t49 3
    refine WL.val (Y.shr rfl rfl (r := ((xs.length * 8 / 2 ^ (56 - 8 * x) : Nat) : Int)) (by omega) (by rw [sh_len (by omega), show (56 - 8 * (x : Int)) = ((56 - 8 * x : Nat) : Int) by omega]; exact sh_div _ _ (by omega))) (by decide) ?_   -- t51 := binOp shr 80 t47 t50 3
    refine WL.val (Y.conv_int Tryd.underlying80 Tryd.underlying5 rfl) (by decide) ?_   -- t52 := convert 80 5 t51
    refine WL.st (St.buildSlice rfl (bs1 _)) (by decide) fun v53 w11 hR11 => ?_   -- t53 := buildSlice 26 1 [(0,t52)]
    obtain ⟨g53, rfl, hg53, hB53, hx11⟩ := hR11
    have hz11 := hx11.size
    have hE := hE.thenExt hx11
    have hB2 := hB2.ext hx11
    have hB3 := hB3.ext hx11
    have hB4 := hB4.ext hx11
    have hO := hO.ext hx11
    rw [u8_of] at hB53
    refine WL.st (St.app (ys := [lenByte xs.length x]) Tryd.underlying26 Tryd.underlying26 ai_u8 rfl rfl hO (Src.arr (ys := [lenByte xs.length x]) hB53.mem) (by simp; omega)) (by decide) fun v54 w12 hR12 => ?_   -- t54 := call append(t41, t53) : 26,26
    obtain ⟨hO12, hc12, hf12⟩ := hR12
    have hz12 := hc12.size
    have hE := hE.step hc12 (fun k h => by have := hfu k h; omega)
    have hB2 := hB2.chg hc12 (fun h => by have := hfu _ h; omega)
    have hB3 := hB3.chg hc12 (fun h => by have := hfu _ h; omega)
    have hB4 := hB4.chg hc12 (fun h => by have := hfu _ h; omega)
    have hf12 : ∀ k, v54.ownBlock = some k → w4.heap.size ≤ k := by
      rcases hf12 with h | h
      · intro k hk; rw [h] at hk; exact hfu k hk
      · intro k hk; have := h k hk; omega
    refine WL.val (Y.assign rfl) (by decide) ?_   -- t5 := assign t54
    refine WL.nil ?_
    refine hK18 _ _ ?_; try clear hK18 K18
    refine CW.region ?_   -- region 13
    refine WL.val (Y.add rfl rfl ⟨by omega, by omega⟩) (by decide) ?_   -- t55 := binOp add 3 t38 c(1:i64) 3
    refine WL.val (Y.move rfl) (by decide) ?_   -- t38 := move t55
    refine WL.nil ?_
    refine ⟨(x + 1, v54), by show 8 - (x + 1) < 8 - x; omega, (by repeat (first | exact Fr.le.nil | refine Fr.le.cons rfl ?_)), by show x + 1 ≤ 8; omega, hE, hB2, hB3, hB4, ?_, hf12, by omega⟩
    show Own _ TB 1 v54 (bytesC (128 :: List.replicate (padZ xs.length) 0 ++ (List.range (x + 1)).map (lenByte xs.length)))
    rw [List.range_succ, List.map_append, ← List.append_assoc]
    exact hO12
  -- else
  refine CW.exit ?_   -- exit 2
  refine hK13 _ _ ?_; try clear hK13 K13
  refine CW.seq fun K20 hK20 => ?_
  refine CW.region ?_   -- region 14
  refine WL.val (Y.move rfl) (by decide) ?_   -- t56 := move t5
  refine WL.call Tryd.func25 rfl rfl rfl (write_any g4 xs rest _ (padB xs.length) _ hB4 hR (by rw [show x = 8 by omega] at hO; exact hO.by) (fun _ k hk => by have := hfu k hk; omega) (hK.ext hE) (by omega) (by rw [padB_len]; omega)) (by simp) ?_; rintro v57 w13 hR13   -- t57 := call F25(t4, t56) : 78,26
  obtain ⟨rest2, hB4, hR2, hc13⟩ := hR13
  have hz13 := hc13.size
  have hE := hE.step hc13 (fun k h => by omega)
  have hB2 := hB2.chg hc13 (fun h => by omega)
  have hB3 := hB3.chg hc13 (fun h => by omega)
  have hww : xs ++ padB xs.length = wholeB xs := rfl
  rw [hww] at hB4
  refine WL.nil ?_
  refine hK20 _ _ ?_; try clear hK20 K20
  refine CW.seq fun K21 hK21 => ?_
  refine CW.seq fun K22 hK22 => ?_
  have hB3 := (show Blk w13 g3 TDi (bytesC ((List.range (4 * 0)).map (digB (blocksN (wholeB xs) ((wholeB xs).length / 64))) ++ List.replicate (32 - 4 * 0) 0)) by
    have e : digC Dig.zero = bytesC (List.replicate 32 0) := rfl
    rw [e] at hB3
    simpa using hB3)
  refine CW.region ?_   -- region 15
  refine WL.val (Y.fieldAddr fo_digestHash1 rfl) (by decide) ?_   -- t58 := fieldAddr 78 t4 1
  refine WL.val (Y.load Tryd.underlying74 rfl (Mem.digestHash1 hB4.mem) (sz_digeststate _) rfl) (by decide) ?_   -- t59 := load 74 t58
  refine WL.val (Y.move rfl) (by decide) ?_   -- t60 := move c(0:i64)
  refine WL.nil ?_
  refine hK22 _ _ ?_; try clear hK22 K22
  refine CW.block ?_   -- block 4
  refine CW.loop (X := Nat) (fun x => [(2, .pointer (some ⟨g2, 0, none⟩)), (3, .pointer (some ⟨g3, 0, none⟩)), (59, stV (blocksN (wholeB xs) ((wholeB xs).length / 64))), (60, .int .i64 (x : Int))]) (fun x w0 => x ≤ 8 ∧ Ext w w0 ∧ Blk w0 g2 TDi (digC Dig.zero) ∧ Blk w0 g3 TDi (bytesC ((List.range (4 * x)).map (digB (blocksN (wholeB xs) ((wholeB xs).length / 64))) ++ List.replicate (32 - 4 * x) 0)) ∧ Blk w0 g4 TH (hashC (blocksN (wholeB xs) ((wholeB xs).length / 64)) rest2 (wholeB xs).length)) (fun x => 8 - x) 0 (by repeat (first | exact Fr.le.nil | refine Fr.le.cons rfl ?_)) ⟨Nat.zero_le _, hE, hB2, hB3, hB4⟩ ?_
  intro x w14 hl14
  clear hE hB2 hB3 hB4 hO hfu hx
  obtain ⟨hx, hE, hB2, hB3, hB4⟩ := hl14
  have hz14 := hE.size
  refine CW.seq fun K23 hK23 => ?_
  refine CW.region ?_   -- region 16
  refine WL.val (Y.lss rfl rfl) (by decide) ?_   -- t61 := binOp lss 3 t60 c(8:i64) 3
  refine WL.nil ?_
  refine hK23 _ _ ?_; try clear hK23 K23
  refine CW.seq fun K24 hK24 => ?_
  first | refine CW.condD rfl (fun ht25 => ?_) (fun ht25 => ?_) | refine CW.condND rfl (fun ht25 => ?_) (fun ht25 => ?_) | refine CW.condN rfl (fun ht25 => ?_) (fun ht25 => ?_) | refine CW.cond rfl (fun ht25 => ?_) (fun ht25 => ?_)
  · -- then
    refine CW.skip ?_
    refine hK24 _ _ ?_; try clear hK24 K24
    refine CW.seq fun K26 hK26 => ?_
    refine CW.block ?_   -- block 5
    refine CW.seq fun K27 hK27 => ?_
    refine CW.region ?_   -- region 17
    refine WL.val (Y.move rfl) (by decide) ?_   -- t62 := move t60
    refine WL.val (Y.index_ws rfl rfl (ws_get (by omega))) (by decide) ?_   -- t63 := index 74 t59 t60
    refine WL.val (Y.assign rfl) (by decide) ?_   -- t7 := assign t62
    refine WL.val (Y.assign rfl) (by decide) ?_   -- t8 := assign t63
    refine WL.nil ?_
    refine hK27 _ _ ?_; try clear hK27 K27
    refine CW.region ?_   -- region 18
    refine WL.val (Y.move rfl) (by decide) ?_   -- t64 := move t7
    refine WL.val (Y.mul rfl rfl ⟨by omega, by omega⟩) (by decide) ?_   -- t65 := binOp mul 3 c(4:i64) t64 3
    refine WL.val (Y.move rfl) (by decide) ?_   -- t66 := move t7
    refine WL.val (Y.mul rfl rfl ⟨by omega, by omega⟩) (by decide) ?_   -- t67 := binOp mul 3 c(4:i64) t66 3
    refine WL.val (Y.add rfl rfl ⟨by omega, by omega⟩) (by decide) ?_   -- t68 := binOp add 3 t67 c(1:i64) 3
    refine WL.val (Y.move rfl) (by decide) ?_   -- t69 := move t7
    refine WL.val (Y.mul rfl rfl ⟨by omega, by omega⟩) (by decide) ?_   -- t70 := binOp mul 3 c(4:i64) t69 3
    refine WL.val (Y.add rfl rfl ⟨by omega, by omega⟩) (by decide) ?_   -- t71 := binOp add 3 t70 c(2:i64) 3
    refine WL.val (Y.move rfl) (by decide) ?_   -- t72 := move t7
    refine WL.val (Y.mul rfl rfl ⟨by omega, by omega⟩) (by decide) ?_   -- t73 := binOp mul 3 c(4:i64) t72 3
    refine WL.val (Y.add rfl rfl ⟨by omega, by omega⟩) (by decide) ?_   -- t74 := binOp add 3 t73 c(3:i64) 3
    refine WL.val (Y.move rfl) (by decide) ?_   -- t75 := move t8
    refine WL.val (Y.shrW 24 rfl rfl rfl (by decide)) (by decide) ?_   -- t76 := binOp shr 72 t75 c(24:u64) 81
    refine WL.val (Y.convW8 Tryd.underlying72 Tryd.underlying5 rfl) (by decide) ?_   -- t77 := convert 72 5 t76
    refine WL.val (Y.move rfl) (by decide) ?_   -- t78 := move t8
    refine WL.val (Y.shrW 16 rfl rfl rfl (by decide)) (by decide) ?_   -- t79 := binOp shr 72 t78 c(16:u64) 81
    refine WL.val (Y.convW8 Tryd.underlying72 Tryd.underlying5 rfl) (by decide) ?_   -- t80 := convert 72 5 t79
    refine WL.val (Y.move rfl) (by decide) ?_   -- t81 := move t8
    refine WL.val (Y.shrW 8 rfl rfl rfl (by decide)) (by decide) ?_   -- t82 := binOp shr 72 t81 c(8:u64) 81
    refine WL.val (Y.convW8 Tryd.underlying72 Tryd.underlying5 rfl) (by decide) ?_   -- t83 := convert 72 5 t82
    refine WL.val (Y.move rfl) (by decide) ?_   -- t84 := move t8
    refine WL.val (Y.convW8 Tryd.underlying72 Tryd.underlying5 rfl) (by decide) ?_   -- t85 := convert 72 5 t84
    refine WL.val (Y.indexAddrAN Tryd.underlying28 rfl rfl sz0_uint8 (i := 4 * x) (by omega)) (by decide) ?_   -- t86 := indexAddr 28 t3 t65
    refine WL.store (g := g3) (pre := bytesC ((List.range (4 * x)).map (digB (blocksN (wholeB xs) ((wholeB xs).length / 64))))) (old := [bc 0]) (post := bytesC (List.replicate (31 - (4 * x)) 0)) (new := [bc (((blocksN (wholeB xs) ((wholeB xs).length / 64)).ws.getD x 0 >>> UInt32.ofNat 24).toUInt8)]) rfl (by rw [add_zero', bytesC_length, List.length_map, List.length_range, Nat.mul_one]) rfl rfl (by kernel_rfl) (by rw [← dig_put _ (by omega)]; exact hB3) (by first | (simp only [List.length_cons, List.length_nil, List.length_map, List.length_replicate, V8.ws, digC_length]; done) | rfl | (simp [digC_length, opC_length]; done) | (simp only [digC_length, opC_length]; omega)) (one1 rfl) (fun w15 hc15 hB15_ => ?_)   -- _ := store 5 t86 t77
    have hz15 := hc15.size; have hE := hE.step hc15 (fun k h => by omega); have hB2 := hB2.chg hc15 (fun h => by omega); have hB4 := hB4.chg hc15 (fun h => by omega)
    have hB3 := (show Blk w15 g3 TDi (bytesC ((List.range (4 * x + 1)).map (digB (blocksN (wholeB xs) ((wholeB xs).length / 64))) ++ List.replicate (32 - (4 * x + 1)) 0)) by rw [dig_new, digB_at0]; exact hB15_)
    refine WL.val (Y.indexAddrAN Tryd.underlying28 rfl rfl sz0_uint8 (i := 4 * x + 1) (by omega)) (by decide) ?_   -- t87 := indexAddr 28 t3 t68
    refine WL.store (g := g3) (pre := bytesC ((List.range (4 * x + 1)).map (digB (blocksN (wholeB xs) ((wholeB xs).length / 64))))) (old := [bc 0]) (post := bytesC (List.replicate (31 - (4 * x + 1)) 0)) (new := [bc (((blocksN (wholeB xs) ((wholeB xs).length / 64)).ws.getD x 0 >>> UInt32.ofNat 16).toUInt8)]) rfl (by rw [add_zero', bytesC_length, List.length_map, List.length_range, Nat.mul_one]) rfl rfl (by kernel_rfl) (by rw [← dig_put _ (by omega)]; exact hB3) (by first | (simp only [List.length_cons, List.length_nil, List.length_map, List.length_replicate, V8.ws, digC_length]; done) | rfl | (simp [digC_length, opC_length]; done) | (simp only [digC_length, opC_length]; omega)) (one1 rfl) (fun w16 hc16 hB16_ => ?_)   -- _ := store 5 t87 t80
    have hz16 := hc16.size; have hE := hE.step hc16 (fun k h => by omega); have hB2 := hB2.chg hc16 (fun h => by omega); have hB4 := hB4.chg hc16 (fun h => by omega)
    have hB3 := (show Blk w16 g3 TDi (bytesC ((List.range (4 * x + 1 + 1)).map (digB (blocksN (wholeB xs) ((wholeB xs).length / 64))) ++ List.replicate (32 - (4 * x + 1 + 1)) 0)) by rw [dig_new, digB_at _ _ _ (by decide)]; exact hB16_)
    refine WL.val (Y.indexAddrAN Tryd.underlying28 rfl rfl sz0_uint8 (i := 4 * x + 2) (by omega)) (by decide) ?_   -- t88 := indexAddr 28 t3 t71
    refine WL.store (g := g3) (pre := bytesC ((List.range (4 * x + 2)).map (digB (blocksN (wholeB xs) ((wholeB xs).length / 64))))) (old := [bc 0]) (post := bytesC (List.replicate (31 - (4 * x + 2)) 0)) (new := [bc (((blocksN (wholeB xs) ((wholeB xs).length / 64)).ws.getD x 0 >>> UInt32.ofNat 8).toUInt8)]) rfl (by rw [add_zero', bytesC_length, List.length_map, List.length_range, Nat.mul_one]) rfl rfl (by kernel_rfl) (by rw [← dig_put _ (by omega)]; exact hB3) (by first | (simp only [List.length_cons, List.length_nil, List.length_map, List.length_replicate, V8.ws, digC_length]; done) | rfl | (simp [digC_length, opC_length]; done) | (simp only [digC_length, opC_length]; omega)) (one1 rfl) (fun w17 hc17 hB17_ => ?_)   -- _ := store 5 t88 t83
    have hz17 := hc17.size; have hE := hE.step hc17 (fun k h => by omega); have hB2 := hB2.chg hc17 (fun h => by omega); have hB4 := hB4.chg hc17 (fun h => by omega)
    have hB3 := (show Blk w17 g3 TDi (bytesC ((List.range (4 * x + 2 + 1)).map (digB (blocksN (wholeB xs) ((wholeB xs).length / 64))) ++ List.replicate (32 - (4 * x + 2 + 1)) 0)) by rw [dig_new, digB_at _ _ _ (by decide)]; exact hB17_)
    refine WL.val (Y.indexAddrAN Tryd.underlying28 rfl rfl sz0_uint8 (i := 4 * x + 3) (by omega)) (by decide) ?_   -- t89 := indexAddr 28 t3 t74
    refine WL.store (g := g3) (pre := bytesC ((List.range (4 * x + 3)).map (digB (blocksN (wholeB xs) ((wholeB xs).length / 64))))) (old := [bc 0]) (post := bytesC (List.replicate (31 - (4 * x + 3)) 0)) (new := [bc (((blocksN (wholeB xs) ((wholeB xs).length / 64)).ws.getD x 0).toUInt8)]) rfl (by rw [add_zero', bytesC_length, List.length_map, List.length_range, Nat.mul_one]) rfl rfl (by kernel_rfl) (by rw [← dig_put _ (by omega)]; exact hB3) (by first | (simp only [List.length_cons, List.length_nil, List.length_map, List.length_replicate, V8.ws, digC_length]; done) | rfl | (simp [digC_length, opC_length]; done) | (simp only [digC_length, opC_length]; omega)) (one1 rfl) (fun w18 hc18 hB18_ => ?_)   -- _ := store 5 t89 t85
    have hz18 := hc18.size; have hE := hE.step hc18 (fun k h => by omega); have hB2 := hB2.chg hc18 (fun h => by omega); have hB4 := hB4.chg hc18 (fun h => by omega)
    have hB3 := (show Blk w18 g3 TDi (bytesC ((List.range (4 * x + 3 + 1)).map (digB (blocksN (wholeB xs) ((wholeB xs).length / 64))) ++ List.replicate (32 - (4 * x + 3 + 1)) 0)) by rw [dig_new, digB_at3]; exact hB18_)
    refine WL.nil ?_
    refine hK26 _ _ ?_; try clear hK26 K26
    refine CW.region ?_   -- region 19
    refine WL.val (Y.add rfl rfl ⟨by omega, by omega⟩) (by decide) ?_   -- t90 := binOp add 3 t60 c(1:i64) 3
    refine WL.val (Y.move rfl) (by decide) ?_   -- t60 := move t90
    refine WL.nil ?_
    refine ⟨x + 1, by show 8 - (x + 1) < 8 - x; omega, (by repeat (first | exact Fr.le.nil | refine Fr.le.cons rfl ?_)), by show x + 1 ≤ 8; omega, hE, hB2, ?_, hB4⟩
    rw [show 4 * (x + 1) = 4 * x + 3 + 1 by omega]
    exact hB3
  -- else
  refine CW.exit ?_   -- exit 4
  refine hK21 _ _ ?_; try clear hK21 K21
  refine CW.seq fun K28 hK28 => ?_
  have hB3 := (show Blk w14 g3 TDi (digC (shaD xs)) by
    have e : digC (shaD xs) = bytesC (digsV (blocksN (wholeB xs) ((wholeB xs).length / 64))) := rfl
    rw [e, digsV]
    rw [show x = 8 by omega] at hB3
    simpa using hB3)
  refine CW.region ?_   -- region 20
  refine WL.val (Y.load Tryd.underlying28 rfl hB3.mem (sz_apiDigest _) rfl) (by decide) ?_   -- t91 := load 28 t3
  refine WL.store (g := g2) (pre := []) (old := digC Dig.zero) (post := []) (new := digC (shaD xs)) rfl rfl rfl rfl (sz_apiDigest _) (by simpa using hB2) (by first | (simp only [List.length_cons, List.length_nil, List.length_map, List.length_replicate, V8.ws, digC_length]; done) | rfl | (simp [digC_length, opC_length]; done) | (simp only [digC_length, opC_length]; omega)) (one_digC) (fun w19 hc19 hB19_ => ?_)   -- _ := store 28 t2 t91
  have hz19 := hc19.size; have hE := hE.step hc19 (fun k h => by omega); have hB3 := hB3.chg hc19 (fun h => by omega); have hB4 := hB4.chg hc19 (fun h => by omega)
  have hB2 : Blk w19 g2 TDi (digC (shaD xs)) := by simpa using hB19_
  refine WL.nil ?_
  refine hK28 _ _ ?_; try clear hK28 K28
  refine CW.ret ?_
  exact ⟨_, _, rfl, hB2.mem, digC_length _, rfl, hE⟩
end Go.Proofs.YtkbmlnkoejlgmaaDoor
