/- SHA-256 as the reference has it, walked: Sum. No condition. -/
import Derived.Test.YtkbmlnkoejlgmaaDoorSl
set_option linter.unusedSimpArgs false
set_option linter.unusedVariables false
namespace Go.Pl
open Go.Fw
def blk (l : List UInt8) (i : Nat) : List UInt8 := (l.drop (64 * i)).take 64
def blocksN (l : List UInt8) : Nat → V8
  | 0 => beginV
  | n + 1 => mixV (blocksN l n) (blk l n)
def digB (v : V8) (i : Nat) : UInt8 := (v.ws.getD (i / 4) 0 >>> UInt32.ofNat (24 - 8 * (i % 4))).toUInt8
def digsV (v : V8) : List UInt8 := (List.range 32).map (digB v)
def shaD (b : List UInt8) : Dig := ⟨digsV (blocksN (wholeB b) ((wholeB b).length / 64)), by simp [digsV]⟩
def beginL : List UInt8 := [54, 97, 48, 57, 101, 54, 54, 55, 98, 98, 54, 55, 97, 101, 56, 53, 51, 99, 54, 101, 102, 51, 55, 50, 97, 53, 52, 102, 102, 53, 51, 97, 53, 49, 48, 101, 53, 50, 55, 102, 57, 98, 48, 53, 54, 56, 56, 99, 49, 102, 56, 51, 100, 57, 97, 98, 53, 98, 101, 48, 99, 100, 49, 57]
theorem begin_ok : ∀ i : Nat, i < 8 → wordL beginL i 8 = beginV.ws.getD i 0 := by decide +kernel
theorem dig_split {x : Nat} (h : x < 32) (l : List UInt8) : bytesC (l ++ List.replicate (32 - x) 0) = bytesC l ++ [bc 0] ++ bytesC (List.replicate (31 - x) 0) := by
  rw [show 32 - x = (31 - x) + 1 by omega, List.replicate_succ, bytesC_append, List.append_assoc]
  rfl
end Go.Pl
namespace Go.Proofs.YtkbmlnkoejlgmaaDoor
open Go.RowKit Go.Fw Go.Pl
abbrev TDi : TypeId := 28
theorem begin_key {s : ByteArray} (h : s.data = beginL.toArray) {i : Nat} (hi : i < 8) : wd (wordL s.toList i 8) = wd (beginV.ws.getD i 0) := by
  rw [ByteArray.toList_eq, h]
  exact congrArg wd (begin_ok i hi)
theorem sh_d : ∀ r : Nat, r < 4 → IntKind.u64.wrap (24 - 8 * (r : Int)) = ((24 - 8 * r : Nat) : Int) := by decide +kernel

set_option maxRecDepth 20000 in
set_option maxHeartbeats 1000000 in
theorem rSum_any (u : Value) (b : List UInt8) (w : World) (hb : By w u b) (hr : b.length ≤ 140737488351232) : Calls Tryd.prog 29 #[u] w (Ret fun v w' => v = digV (shaD b) ∧ Ext w w') := by
  obtain ⟨A, m, c, rfl⟩ := hb.lens
  obtain ⟨hm, hmc, hcm⟩ := hb.len
  obtain ⟨id, hid, hzd, _⟩ := info_apiDigest
  refine calls_of_CWc 52 2 32 [(0, .slice A m c)] Tryd.func29 rfl rfl rfl Tryd.underlying28 rfl (by kernel_rfl) (by simp) args1 ?_
  have hE : Ext w w := Chg.refl
  refine CW.seq fun K1 hK1 => ?_
  refine CW.region ?_   -- region 0
  refine WL.alloc (hid) (hzd) rfl (by decide) fun g2 w1 hx1 hg2 hB2 => ?_   -- t2 := alloc 28
  have hlt2 := hB2.lt; have hz1 := hx1.size
  have hM2 := hB2.mem; have hz1 := hx1.size; have hE := hE.thenExt hx1
  refine WL.nil ?_
  refine hK1 _ _ ?_; try clear hK1 K1
  refine CW.seq fun K2 hK2 => ?_
  refine CW.region ?_   -- region 1
  refine WL.val (Y.assign rfl) (by decide) ?_   -- t3 := assign c(nilslice)
  refine WL.nil ?_
  refine hK2 _ _ ?_; try clear hK2 K2
  refine CW.seq fun K3 hK3 => ?_
  refine CW.seq fun K4 hK4 => ?_
  refine CW.region ?_   -- region 2
  refine WL.val (Y.assign rfl) (by decide) ?_   -- t4 := assign c(0:i64)
  refine WL.nil ?_
  refine hK4 _ _ ?_; try clear hK4 K4
  refine CW.block ?_   -- block 0
  refine CW.loop (X := Nat × Value) (fun x => [(0, .slice A m c), (2, .pointer (some ⟨g2, 0, none⟩)), (3, x.2), (4, .int .i64 (x.1 : Int))]) (fun x w0 => x.1 ≤ 8 ∧ Ext w w0 ∧ Blk w0 g2 TDi (digC Dig.zero) ∧ Own w0 TW 1 x.2 (wds (beginV.ws.take x.1)) ∧ (∀ k, x.2.ownBlock = some k → w1.heap.size ≤ k) ∧ w1.heap.size ≤ w0.heap.size) (fun x => 8 - x.1) (0, .slice none 0 0) (by repeat (first | exact Fr.le.nil | refine Fr.le.cons rfl ?_)) ⟨Nat.zero_le _, hE, hB2, Own.nil, (fun k h => by simp [Value.ownBlock] at h), Nat.le_refl _⟩ ?_
  intro x w2 hl2
  obtain ⟨x, u⟩ := x
  dsimp only at hl2 ⊢
  obtain ⟨hx, hE, hB2, hO, hfu, hzz⟩ := hl2
  obtain ⟨B, mb, cb, rfl⟩ := hO.lens
  refine CW.seq fun K5 hK5 => ?_
  refine CW.seq fun K6 hK6 => ?_
  refine CW.region ?_   -- region 3
  refine WL.val (Y.move rfl) (by decide) ?_   -- t9 := move t4
  refine WL.val (Y.lss rfl rfl) (by decide) ?_   -- t10 := binOp lss 3 t9 c(8:i64) 3
  refine WL.nil ?_
  refine hK6 _ _ ?_; try clear hK6 K6
  first | refine CW.condD rfl (fun ht7 => ?_) (fun ht7 => ?_) | refine CW.condND rfl (fun ht7 => ?_) (fun ht7 => ?_) | refine CW.condN rfl (fun ht7 => ?_) (fun ht7 => ?_) | refine CW.cond rfl (fun ht7 => ?_) (fun ht7 => ?_)
  · -- then
    refine CW.skip ?_
    refine hK5 _ _ ?_; try clear hK5 K5
    refine CW.seq fun K8 hK8 => ?_
    refine CW.block ?_   -- block 1
    refine CW.region ?_   -- region 5
    refine WL.val (Y.move rfl) (by decide) ?_   -- t13 := move t3
    refine WL.val (Y.move rfl) (by decide) ?_   -- t14 := move t4
    refine WL.call Tryd.func40 rfl rfl rfl (word_any _ x _ (by show 8 * x + 8 ≤ 64; omega) (by show 64 ≤ _; decide)) (by simp) ?_; rintro v w3 ⟨rfl, hx3⟩; have hz3 := hx3.size; have hE := hE.thenExt hx3; have hB2 := hB2.ext hx3   -- t15 := call F40(c(STR), t14) : 9,3
    refine WL.know (d := 15) (u := wd (beginV.ws.getD x 0)) rfl (begin_key rfl (by omega)) ?_
    refine WL.st (St.buildSlice rfl (bs1_w _)) (by decide) fun v16 w4 hR4 => ?_   -- t16 := buildSlice 85 1 [(0,t15)]
    obtain ⟨g16, rfl, hg16, hB16, hx4⟩ := hR4
    have hz4 := hx4.size
    have hE := hE.thenExt hx4
    have hB2 := hB2.ext hx4
    have hO := hO.ext (hx3.thenExt hx4)
    refine WL.st (St.append Tryd.underlying85 Tryd.underlying85 ai_w rfl rfl hO (Src.one hB16 rfl) (one1 rfl) (by rw [List.length_map, List.length_take]; omega)) (by decide) fun v17 w5 hR5 => ?_   -- t17 := call append(t13, t16) : 85,85
    obtain ⟨hO5, hc5, hf5⟩ := hR5
    have hz5 := hc5.size
    have hE := hE.step hc5 (fun k h => by have := hfu k h; omega)
    have hB2 := hB2.chg hc5 (fun h => by have := hfu _ h; omega)
    have hf5 : ∀ k, v17.ownBlock = some k → w1.heap.size ≤ k := by
      rcases hf5 with h | h
      · intro k hk; rw [h] at hk; exact hfu k hk
      · intro k hk; have := h k hk; omega
    refine WL.val (Y.assign rfl) (by decide) ?_   -- t3 := assign t17
    refine WL.nil ?_
    refine hK8 _ _ ?_; try clear hK8 K8
    refine CW.region ?_   -- region 4
    refine WL.val (Y.move rfl) (by decide) ?_   -- t11 := move t4
    refine WL.val (Y.add rfl rfl ⟨by omega, by omega⟩) (by decide) ?_   -- t12 := binOp add 3 t11 c(1:i64) 3
    refine WL.val (Y.assign rfl) (by decide) ?_   -- t4 := assign t12
    refine WL.nil ?_
    refine ⟨(x + 1, v17), by show 8 - (x + 1) < 8 - x; omega, (by repeat (first | exact Fr.le.nil | refine Fr.le.cons rfl ?_)), by show x + 1 ≤ 8; omega, hE, hB2, ?_, hf5, by omega⟩
    show Own _ TW 1 v17 (wds (beginV.ws.take (x + 1)))
    rw [take_succ (ws_get (by omega)), wds, List.map_append]
    exact hO5
  -- else
  refine CW.exit ?_   -- exit 0
  refine hK3 _ _ ?_; try clear hK3 K3
  refine CW.seq fun K9 hK9 => ?_
  have hx8 : x = 8 := by omega
  rw [hx8] at hO
  obtain ⟨hA, _, hlm, _, _⟩ := hO.mem B mb cb rfl
  have hlm8 : mb = 8 := by
    have h : (wds (beginV.ws.take 8)).length = 8 := rfl
    omega
  subst hlm8
  obtain ⟨sa, rfl, hsa⟩ := hA (by decide)
  have hsa : Mem w2 sa (wds beginV.ws) := hsa
  refine CW.region ?_   -- region 6
  refine WL.val (Y.move rfl) (by decide) ?_   -- t18 := move t0
  refine WL.call Tryd.func41 rfl rfl rfl (whole_any _ b _ (hb.ext hE) hr) (by simp) ?_; rintro v19 w6 hR6   -- t19 := call F41(t18) : 26
  obtain ⟨hO6, hf6, hx6⟩ := hR6
  have hz6 := hx6.size
  have hE := hE.thenExt hx6
  have hB2 := hB2.ext hx6
  have hsa := hsa.ext hx6
  have hW := hO6.by
  obtain ⟨WA, wm, wc, rfl⟩ := hW.lens
  obtain ⟨hwm, hwc, hwM⟩ := hW.len
  have hwl : wm = b.length + (padZ b.length + 9) := by rw [← hwm, wholeB, List.length_append, padB_len]
  have hpz : padZ b.length < 64 := by unfold padZ; omega
  obtain ⟨WA, rfl, hWM⟩ := hW.mem.1 (by omega)
  have hw64 := wholeB_len b
  refine WL.val (Y.assign rfl) (by decide) ?_   -- t5 := assign t19
  refine WL.nil ?_
  refine hK9 _ _ ?_; try clear hK9 K9
  refine CW.seq fun K10 hK10 => ?_
  refine CW.seq fun K11 hK11 => ?_
  refine CW.region ?_   -- region 7
  refine WL.val (Y.assign rfl) (by decide) ?_   -- t6 := assign c(0:i64)
  refine WL.nil ?_
  refine hK11 _ _ ?_; try clear hK11 K11
  refine CW.block ?_   -- block 2
  refine CW.loop (X := Nat × Addr × Nat) (fun x => [(2, .pointer (some ⟨g2, 0, none⟩)), (3, .slice (some x.2.1) 8 x.2.2), (5, .slice (some WA) wm wc), (6, .int .i64 ((64 * x.1 : Nat) : Int))]) (fun x w0 => 64 * x.1 ≤ wm ∧ Ext w6 w0 ∧ Mem w0 x.2.1 (wds (blocksN (wholeB b) x.1).ws)) (fun x => wm - 64 * x.1) (0, sa, cb) (by repeat (first | exact Fr.le.nil | refine Fr.le.cons rfl ?_)) ⟨Nat.zero_le _, Chg.refl, hsa⟩ ?_
  intro x w7 hl7
  obtain ⟨q, ta, tc⟩ := x
  dsimp only at hl7 ⊢
  obtain ⟨hq1, hy7, hT⟩ := hl7
  have hE := hE.thenExt hy7
  have hB2 := hB2.ext hy7
  have hWM7 := hWM.ext hy7
  have hz7 := hy7.size
  refine CW.seq fun K12 hK12 => ?_
  refine CW.seq fun K13 hK13 => ?_
  refine CW.region ?_   -- region 8
  refine WL.val (Y.move rfl) (by decide) ?_   -- t20 := move t6
  refine WL.val (Y.move rfl) (by decide) ?_   -- t21 := move t5
  refine WL.val (Y.len_slice Tryd.underlying26 rfl) (by decide) ?_   -- t22 := call len(t21) : 26
  refine WL.val (Y.lss rfl rfl) (by decide) ?_   -- t23 := binOp lss 3 t20 t22 3
  refine WL.nil ?_
  refine hK13 _ _ ?_; try clear hK13 K13
  first | refine CW.condD rfl (fun ht14 => ?_) (fun ht14 => ?_) | refine CW.condND rfl (fun ht14 => ?_) (fun ht14 => ?_) | refine CW.condN rfl (fun ht14 => ?_) (fun ht14 => ?_) | refine CW.cond rfl (fun ht14 => ?_) (fun ht14 => ?_)
  · -- then
    refine CW.skip ?_
    refine hK12 _ _ ?_; try clear hK12 K12
    refine CW.seq fun K15 hK15 => ?_
    refine CW.block ?_   -- block 3
    refine CW.region ?_   -- region 10
    refine WL.val (Y.move rfl) (by decide) ?_   -- t26 := move t3
    refine WL.val (Y.move rfl) (by decide) ?_   -- t27 := move t5
    refine WL.val (Y.move rfl) (by decide) ?_   -- t28 := move t6
    refine WL.val (Y.move rfl) (by decide) ?_   -- t29 := move t6
    refine WL.val (Y.add rfl rfl ⟨by omega, by omega⟩) (by decide) ?_   -- t30 := binOp add 3 t29 c(64:i64) 3
    refine WL.val (Y.slice_sl Tryd.underlying26 rfl rfl rfl sz0_uint8 (i := 64 * q) (j := 64 * q + 64) (by omega) (by omega)) (by decide) ?_   -- t31 := slice 26 t27 t28 t30 none
    have hj : 64 * q + 64 - 64 * q = 64 := by omega
    have hbk := By.slMem hWM7 hwm hwc (i := 64 * q) (j := 64 * q + 64) (by omega) (by omega)
    rw [hj] at hbk
    have hbl : (blk (wholeB b) q).length = 64 := by rw [blk, List.length_take, List.length_drop, hwm]; omega
    refine WL.call Tryd.func42 rfl rfl rfl (mix_any _ ta tc _ (blk (wholeB b) q) _ hT ⟨_, _, _, rfl, by rw [hj]; exact hbl, by omega, by omega, fun _ => ⟨_, rfl, hbk⟩, fun h => by cases h⟩ hbl) (by simp) ?_; rintro v32 w8 hR8   -- t32 := call F42(t26, t31) : 85,26
    obtain ⟨g32, rfl, hg32, hB32, hx8⟩ := hR8
    have hz8 := hx8.size
    have hE := hE.thenExt hx8
    have hB2 := hB2.ext hx8
    refine WL.val (Y.assign rfl) (by decide) ?_   -- t3 := assign t32
    refine WL.nil ?_
    refine hK15 _ _ ?_; try clear hK15 K15
    refine CW.region ?_   -- region 9
    refine WL.val (Y.move rfl) (by decide) ?_   -- t24 := move t6
    refine WL.val (Y.add rfl rfl ⟨by omega, by omega⟩) (by decide) ?_   -- t25 := binOp add 3 t24 c(64:i64) 3
    refine WL.val (Y.assign rfl) (by decide) ?_   -- t6 := assign t25
    refine WL.nil ?_
    refine ⟨(q + 1, ⟨g32, 0, none⟩, 8), by show wm - 64 * (q + 1) < wm - 64 * q; omega, ?_, by show 64 * (q + 1) ≤ wm; omega, hy7.thenExt hx8, hB32.mem⟩
    show Fr.le [(2, .pointer (some ⟨g2, 0, none⟩)), (3, .slice (some ⟨g32, 0, none⟩) 8 8), (5, .slice (some WA) wm wc), (6, .int .i64 ((64 * (q + 1) : Nat) : Int))] _
    rw [show ((64 * (q + 1) : Nat) : Int) = ((64 * q : Nat) : Int) + 64 by omega]
    exact (by repeat (first | exact Fr.le.nil | refine Fr.le.cons rfl ?_))
  -- else
  refine CW.exit ?_   -- exit 2
  refine hK10 _ _ ?_; try clear hK10 K10
  refine CW.seq fun K16 hK16 => ?_
  have hqe : (wholeB b).length / 64 = q := by omega
  have hta : ta.block < w7.heap.size := hT.lt (fun h => by cases h)
  refine CW.region ?_   -- region 11
  refine WL.alloc (hid) (hzd) rfl (by decide) fun g7 w9 hx9 hg7 hB7 => ?_   -- t7 := alloc 28
  have hlt7 := hB7.lt; have hz9 := hx9.size
  have hM7 := hB7.mem; have hz9 := hx9.size; have hE := hE.thenExt hx9; have hB2 := hB2.ext hx9
  refine WL.nil ?_
  refine hK16 _ _ ?_; try clear hK16 K16
  refine CW.seq fun K17 hK17 => ?_
  refine CW.seq fun K18 hK18 => ?_
  have hB7 := (show Blk w9 g7 TDi (bytesC ((List.range 0).map (digB (blocksN (wholeB b) q)) ++ List.replicate (32 - 0) 0)) by
    have e : digC Dig.zero = bytesC (List.replicate 32 0) := rfl
    rw [e] at hB7
    simpa using hB7)
  refine CW.region ?_   -- region 12
  refine WL.val (Y.assign rfl) (by decide) ?_   -- t8 := assign c(0:i64)
  refine WL.nil ?_
  refine hK18 _ _ ?_; try clear hK18 K18
  refine CW.block ?_   -- block 4
  refine CW.loop (X := Nat) (fun x => [(2, .pointer (some ⟨g2, 0, none⟩)), (3, .slice (some ta) 8 tc), (7, .pointer (some ⟨g7, 0, none⟩)), (8, .int .i64 (x : Int))]) (fun x w0 => x ≤ 32 ∧ Ext w w0 ∧ Blk w0 g2 TDi (digC Dig.zero) ∧ Mem w0 ta (wds (blocksN (wholeB b) q).ws) ∧ Blk w0 g7 TDi (bytesC ((List.range x).map (digB (blocksN (wholeB b) q)) ++ List.replicate (32 - x) 0))) (fun x => 32 - x) 0 (by repeat (first | exact Fr.le.nil | refine Fr.le.cons rfl ?_)) ⟨Nat.zero_le _, hE, hB2, hT.ext hx9, hB7⟩ ?_
  intro x w10 hl10
  clear hE hB2 hT hB7
  obtain ⟨hx, hE, hB2, hT, hB7⟩ := hl10
  have hz10 := hE.size
  refine CW.seq fun K19 hK19 => ?_
  refine CW.seq fun K20 hK20 => ?_
  refine CW.region ?_   -- region 13
  refine WL.val (Y.move rfl) (by decide) ?_   -- t33 := move t8
  refine WL.val (Y.lss rfl rfl) (by decide) ?_   -- t34 := binOp lss 3 t33 c(32:i64) 3
  refine WL.nil ?_
  refine hK20 _ _ ?_; try clear hK20 K20
  first | refine CW.condD rfl (fun ht21 => ?_) (fun ht21 => ?_) | refine CW.condND rfl (fun ht21 => ?_) (fun ht21 => ?_) | refine CW.condN rfl (fun ht21 => ?_) (fun ht21 => ?_) | refine CW.cond rfl (fun ht21 => ?_) (fun ht21 => ?_)
  · -- then
    refine CW.skip ?_
    refine hK19 _ _ ?_; try clear hK19 K19
    refine CW.seq fun K22 hK22 => ?_
    refine CW.block ?_   -- block 5
    refine CW.region ?_   -- region 15
    refine WL.val (Y.move rfl) (by decide) ?_   -- t37 := move t8
    refine WL.val (Y.move rfl) (by decide) ?_   -- t38 := move t3
    refine WL.val (Y.move rfl) (by decide) ?_   -- t39 := move t8
    refine WL.val (Y.quoN (q := 4) rfl rfl (by decide)) (by decide) ?_   -- t40 := binOp quo 3 t39 c(4:i64) 3
    refine WL.val (Y.indexAddrN Tryd.underlying85 rfl rfl sz0_uint32 (by omega)) (by decide) ?_   -- t41 := indexAddr 85 t38 t40
    refine WL.val (Y.load1 Tryd.underlying72 rfl (hT.wd (ws_get (by omega))) rfl) (by decide) ?_   -- t42 := load 72 t41
    refine WL.val (Y.move rfl) (by decide) ?_   -- t43 := move t8
    refine WL.val (Y.remN (q := 4) rfl rfl (by decide)) (by decide) ?_   -- t44 := binOp rem 3 t43 c(4:i64) 3
    refine WL.val (Y.mul rfl rfl ⟨by omega, by omega⟩) (by decide) ?_   -- t45 := binOp mul 3 c(8:i64) t44 3
    refine WL.val (Y.sub rfl rfl ⟨by omega, by omega⟩) (by decide) ?_   -- t46 := binOp sub 3 c(24:i64) t45 3
    refine WL.val (Y.conv_int Tryd.underlying3 Tryd.underlying81 rfl) (by decide) ?_   -- t47 := convert 3 81 t46
    refine WL.val (Y.shrW (24 - 8 * (x % 4)) rfl rfl (sh_d _ (by omega)) (by omega)) (by decide) ?_   -- t48 := binOp shr 72 t42 t47 81
    refine WL.val (Y.convW8 Tryd.underlying72 Tryd.underlying5 rfl) (by decide) ?_   -- t49 := convert 72 5 t48
    refine WL.val (Y.indexAddrAN Tryd.underlying28 rfl rfl sz0_uint8 (by omega)) (by decide) ?_   -- t50 := indexAddr 28 t7 t37
    refine WL.store (g := g7) (pre := bytesC ((List.range x).map (digB (blocksN (wholeB b) q)))) (old := [bc 0]) (post := bytesC (List.replicate (31 - x) 0)) (new := [bc (digB (blocksN (wholeB b) q) x)]) rfl (by rw [add_zero', bytesC_length, List.length_map, List.length_range, Nat.mul_one]) rfl rfl (by kernel_rfl) (by rw [← dig_split (by omega)]; exact hB7) (by first | (simp only [List.length_cons, List.length_nil, List.length_map, List.length_replicate, V8.ws, digC_length]; done) | rfl | (simp [digC_length, opC_length]; done) | (simp only [digC_length, opC_length]; omega)) (one1 rfl) (fun w11 hc11 hB11_ => ?_)   -- _ := store 5 t50 t49
    have hz11 := hc11.size; have hE := hE.step hc11 (fun k h => by omega); have hB2 := hB2.chg hc11 (fun h => by omega)
    have hB7 := (show Blk w11 g7 TDi (bytesC ((List.range (x + 1)).map (digB (blocksN (wholeB b) q)) ++ List.replicate (32 - (x + 1)) 0)) by
      rw [List.range_succ, List.map_append, show 32 - (x + 1) = 31 - x by omega, bytesC_append, bytesC_append]; exact hB11_)
    have hT := hT.chg hc11 (fun h => by omega)
    refine WL.nil ?_
    refine hK22 _ _ ?_; try clear hK22 K22
    refine CW.region ?_   -- region 14
    refine WL.val (Y.move rfl) (by decide) ?_   -- t35 := move t8
    refine WL.val (Y.add rfl rfl ⟨by omega, by omega⟩) (by decide) ?_   -- t36 := binOp add 3 t35 c(1:i64) 3
    refine WL.val (Y.assign rfl) (by decide) ?_   -- t8 := assign t36
    refine WL.nil ?_
    refine ⟨x + 1, by show 32 - (x + 1) < 32 - x; omega, (by repeat (first | exact Fr.le.nil | refine Fr.le.cons rfl ?_)), by show x + 1 ≤ 32; omega, hE, hB2, hT, hB7⟩
  -- else
  refine CW.exit ?_   -- exit 4
  refine hK17 _ _ ?_; try clear hK17 K17
  refine CW.seq fun K23 hK23 => ?_
  have hB7 := (show Blk w10 g7 TDi (digC (shaD b)) by
    have e : digC (shaD b) = bytesC (digsV (blocksN (wholeB b) q)) := by show bytesC (digsV (blocksN (wholeB b) ((wholeB b).length / 64))) = _; rw [hqe]
    rw [e, digsV]
    rw [show x = 32 by omega] at hB7
    simpa using hB7)
  refine CW.region ?_   -- region 16
  refine WL.val (Y.load Tryd.underlying28 rfl hB7.mem (sz_apiDigest _) rfl) (by decide) ?_   -- t51 := load 28 t7
  refine WL.store (g := g2) (pre := []) (old := digC Dig.zero) (post := []) (new := digC (shaD b)) rfl rfl rfl rfl (sz_apiDigest _) (by simpa using hB2) (by first | (simp only [List.length_cons, List.length_nil, List.length_map, List.length_replicate, V8.ws, digC_length]; done) | rfl | (simp [digC_length, opC_length]; done) | (simp only [digC_length, opC_length]; omega)) (one_digC) (fun w12 hc12 hB12_ => ?_)   -- _ := store 28 t2 t51
  have hz12 := hc12.size; have hE := hE.step hc12 (fun k h => by omega); have hB7 := hB7.chg hc12 (fun h => by omega)
  have hB2 : Blk w12 g2 TDi (digC (shaD b)) := by simpa using hB12_
  refine WL.nil ?_
  refine hK23 _ _ ?_; try clear hK23 K23
  refine CW.ret ?_
  exact ⟨_, _, rfl, hB2.mem, digC_length _, rfl, hE⟩
end Go.Proofs.YtkbmlnkoejlgmaaDoor
