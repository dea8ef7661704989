/- A store: New, made, Len, Size, Get, Has, walked; slices.Equal at bytes. No condition. -/
import Derived.Test.YtkbmlnkoejlgmaaDoorXa
import Derived.Test.YtkbmlnkoejlgmaaDoorM1
set_option linter.unusedSimpArgs false
set_option linter.unusedVariables false
namespace Go.Proofs.YtkbmlnkoejlgmaaDoor
open Go.RowKit Go.Fw Go.Pl
theorem eqIn_stp (d : Nat) (a : Addr) (w : World) : (Op.equalIn (d + 1) 23 (.pointer (some a)) (.pointer none)).run Tryd.prog w = .ok false w := by
  rw [Op.equalIn, Sem.run_bind, run_underlying Tryd.underlying23]
  rfl
section
variable {n : NN} {fr : Fr} {w : World} {ty : TypeId} {x y : Operand} {t' : TypeId}
theorem Y.eql_storeStore {a : Addr} (hx : ev fr x = some (.pointer (some a))) (hy : ev fr y = some (.pointer none)) : Yw Tryd.prog n fr (.binOp .eql 23 x y t') ty w (.bool false) w :=
  Y.bin hx hy (by simp [eqGuard]) (by
    simp only [binOp, Op.equal, Sem.run_bind]
    rw [show Op.maxDepth = 9999 + 1 from rfl, eqIn_stp 9999]
    rfl)
theorem Y.neq_storeStore {a : Addr} (hx : ev fr x = some (.pointer (some a))) (hy : ev fr y = some (.pointer none)) : Yw Tryd.prog n fr (.binOp .neq 23 x y t') ty w (.bool true) w :=
  Y.bin hx hy (by simp [eqGuard]) (by
    simp only [binOp, Op.equal, Sem.run_bind]
    rw [show Op.maxDepth = 9999 + 1 from rfl, eqIn_stp 9999]
    rfl)
end
theorem build_store (r : Nat) (w : World) : (Instr.build TS_ [(0, Value.map (some r))].toArray).run Tryd.prog w = .ok (.agg (storeC r 0).toArray) w := run_build w _ _ _ (by kernel_rfl)
abbrev UM := Tryd.underlying56
theorem bytes_part {xs ys : List UInt8} {i : Nat} {a b : UInt8} (ha : xs[i]? = some a) (hb : ys[i]? = some b) (h : (a.toNat : Int) ≠ b.toNat) : xs ≠ ys := by
  rintro rfl; rw [ha] at hb; injection hb with hb; subst hb; exact h rfl
theorem bytes_more {xs ys : List UInt8} {i : Nat} {a b : UInt8} (ht : xs.take i = ys.take i) (ha : xs[i]? = some a) (hb : ys[i]? = some b) (h : ¬ ((a.toNat : Int) ≠ b.toNat)) : xs.take (i + 1) = ys.take (i + 1) := by
  have : a = b := UInt8.toNat_inj.1 (by omega)
  rw [take_succ ha, take_succ hb, ht, this]
theorem bytes_whole {α : Type} {xs ys : List α} {i : Nat} (hl : xs.length = ys.length) (hi : xs.length ≤ i) (ht : xs.take i = ys.take i) : xs = ys := by
  rwa [List.take_of_length_le hi, List.take_of_length_le (by omega)] at ht
def getI (l : List Ent) (d : Dig) : Int := if (at_ l d).isSome then 0 else 5

theorem made_any (g r : Nat) (l : List Ent) (w : World) (hT : StoreAt w g r l) : Calls Tryd.prog 22 #[.pointer (some ⟨g, 0, none⟩)] w (Ret fun v w' => v = .bool true ∧ Ext w w') := by
  have hB0 := hT.blk
  refine calls_of_CW 12 [2] [(0, .pointer (some ⟨g, 0, none⟩))] Tryd.func22 rfl rfl rfl (by simp) args1 ?_
  have hE : Ext w w := Chg.refl
  refine CW.seq fun K1 hK1 => ?_
  refine CW.region ?_   -- region 0
  refine WL.val (Y.assign rfl) (by decide) ?_   -- t2 := assign c(false)
  refine WL.nil ?_
  refine hK1 _ _ ?_; try clear hK1 K1
  refine CW.seq fun K2 hK2 => ?_
  refine CW.region ?_   -- region 1
  refine WL.val (Y.move rfl) (by decide) ?_   -- t3 := move t0
  refine WL.val (Y.neq_storeStore rfl rfl) (by decide) ?_   -- t4 := binOp neq 23 t3 c(['Go.Value.pointer', 'none']) 23
  refine WL.val (Y.move rfl) (by decide) ?_   -- t5 := move t4
  refine WL.know (d := 5) (u := .bool true) rfl (by rfl) ?_
  refine WL.gval rfl rfl (Y.move rfl) (by decide) ?_   -- t6 := move t0 [if 2=true]
  refine WL.gval rfl rfl (Y.nilCheck rfl) (by decide) ?_   -- t7 := nilCheck t6 [if 2=true]
  refine WL.gval rfl rfl (Y.fieldAddr fo_storeStore0 rfl) (by decide) ?_   -- t8 := fieldAddr 58 t7 0 [if 2=true]
  refine WL.gval rfl rfl (Y.load1 Tryd.underlying56 rfl hB0.mem.storeStore0 rfl) (by decide) ?_   -- t9 := load 56 t8 [if 2=true]
  refine WL.gval rfl rfl (Y.neq_nilmap Tryd.underlying56 rfl) (by decide) ?_   -- t10 := binOp neq 56 t9 c(['Go.Value.map', 'none']) 56 [if 2=true]
  refine WL.val (Y.pick rfl rfl) (by decide) ?_   -- t11 := pick t5 t10 c(false)
  refine WL.val (Y.assign rfl) (by decide) ?_   -- t2 := assign t11
  refine WL.nil ?_
  refine hK2 _ _ ?_; try clear hK2 K2
  refine CW.ret ⟨_, rfl, ?_⟩
  exact ⟨rfl, hE⟩
theorem stNew_any (w : World) : Calls Tryd.prog 7 #[] w (Ret fun v w' => ∃ g r, v = .pointer (some ⟨g, 0, none⟩) ∧ w.heap.size ≤ g ∧ w.heap.size ≤ r ∧ StoreAt w' g r [] ∧ Ext w w') := by
  refine calls_of_CW 4 [0] [] Tryd.func7 rfl rfl rfl (by simp) args0 ?_
  have hE : Ext w w := Chg.refl
  refine CW.seq fun K1 hK1 => ?_
  refine CW.region ?_   -- region 0
  refine WL.val (Y.assign rfl) (by decide) ?_   -- t0 := assign c(['Go.Value.pointer', 'none'])
  refine WL.nil ?_
  refine hK1 _ _ ?_; try clear hK1 K1
  refine CW.seq fun K2 hK2 => ?_
  refine CW.region ?_   -- region 1
  refine WL.st (St.makeMap) (by decide) fun v1 w1 hR1 => ?_   -- t1 := makeMap 56 none
  obtain ⟨r, rfl, hr, hMp, hx1⟩ := hR1
  have hz1 := hx1.size
  have hE := hE.thenExt hx1
  refine WL.val (Y.build rfl (build_store r _)) (by decide) ?_   -- t2 := build 58 [(0,t1)]
  refine WL.box rfl rfl (by decide) fun g3 w2 hx2 hg3 hB3 => ?_   -- t3 := box 58 t2
  have hlt3 := hB3.lt; have hz2 := hx2.size
  have hM3 := hB3.mem; have hz2 := hx2.size; have hE := hE.thenExt hx2
  refine WL.val (Y.assign rfl) (by decide) ?_   -- t0 := assign t3
  refine WL.nil ?_
  refine hK2 _ _ ?_; try clear hK2 K2
  refine CW.ret ⟨_, rfl, ?_⟩
  exact ⟨g3, r, rfl, by omega, by omega, ⟨hB3, ⟨0, (hMp Ent Ent.me).ext hx2, fun e he => (nomatch he)⟩, List.nodup_nil, fun e he => (nomatch he), fun e he => (nomatch he), List.nodup_nil, Nat.zero_le _, fun e he => (nomatch he), (by have := (hMp Ent Ent.me).lt; omega)⟩, hE⟩
theorem stLen_any (g r : Nat) (l : List Ent) (w : World) (hT : StoreAt w g r l) : Calls Tryd.prog 12 #[.pointer (some ⟨g, 0, none⟩)] w (Ret fun v w' => v = .int .i64 (l.length : Int) ∧ Ext w w') := by
  have hB0 := hT.blk
  refine calls_of_CW 11 [2] [(0, .pointer (some ⟨g, 0, none⟩))] Tryd.func12 rfl rfl rfl (by simp) args1 ?_
  have hE : Ext w w := Chg.refl
  refine CW.seq fun K1 hK1 => ?_
  refine CW.region ?_   -- region 0
  refine WL.val (Y.assign rfl) (by decide) ?_   -- t2 := assign c(0:i64)
  refine WL.nil ?_
  refine hK1 _ _ ?_; try clear hK1 K1
  refine CW.seq fun K2 hK2 => ?_
  refine CW.seq fun K3 hK3 => ?_
  refine CW.region ?_   -- region 1
  refine WL.val (Y.move rfl) (by decide) ?_   -- t3 := move t0
  refine WL.call Tryd.func22 rfl rfl rfl (made_any g r l _ hT) (by simp) ?_; rintro v w1 ⟨rfl, hx1⟩; have hz1 := hx1.size; have hE := hE.thenExt hx1; have hT := hT.ext hx1; have hB0 := hB0.ext hx1   -- t4 := call F22(t3) : 23
  refine WL.val (Y.not rfl) (by decide) ?_   -- t5 := unOp not 4 t4
  refine WL.nil ?_
  refine hK3 _ _ ?_; try clear hK3 K3
  first | refine CW.condD rfl (fun ht4 => ?_) (fun ht4 => ?_) | refine CW.condND rfl (fun ht4 => ?_) (fun ht4 => ?_) | refine CW.condN rfl (fun ht4 => ?_) (fun ht4 => ?_) | refine CW.cond rfl (fun ht4 => ?_) (fun ht4 => ?_)
  · -- then
    refine CW.seq fun K5 hK5 => ?_
    refine CW.region ?_   -- region 2
    refine WL.val (Y.assign rfl) (by decide) ?_   -- t2 := assign c(0:i64)
    refine WL.nil ?_
    refine hK5 _ _ ?_; try clear hK5 K5
    refine CW.ret ⟨_, rfl, ?_⟩
    exact absurd (show true = false by assumption) (by decide)
  -- else
  refine CW.skip ?_
  refine hK2 _ _ ?_; try clear hK2 K2
  refine CW.seq fun K6 hK6 => ?_
  refine CW.region ?_   -- region 3
  refine WL.val (Y.move rfl) (by decide) ?_   -- t6 := move t0
  refine WL.val (Y.nilCheck rfl) (by decide) ?_   -- t7 := nilCheck t6
  refine WL.val (Y.fieldAddr fo_storeStore0 rfl) (by decide) ?_   -- t8 := fieldAddr 58 t7 0
  refine WL.val (Y.load1 Tryd.underlying56 rfl hB0.mem.storeStore0 rfl) (by decide) ?_   -- t9 := load 56 t8
  refine WL.val (Y.len_map Tryd.underlying56 rfl hT.map.choose_spec.1) (by decide) ?_   -- t10 := call len(t9) : 56
  refine WL.val (Y.assign rfl) (by decide) ?_   -- t2 := assign t10
  refine WL.nil ?_
  refine hK6 _ _ ?_; try clear hK6 K6
  refine CW.ret ⟨_, rfl, ?_⟩
  exact ⟨rfl, hE⟩
theorem stSize_any (g r : Nat) (l : List Ent) (w : World) (hT : StoreAt w g r l) : Calls Tryd.prog 14 #[.pointer (some ⟨g, 0, none⟩)] w (Ret fun v w' => v = .int .i64 (total l : Int) ∧ Ext w w') := by
  have hB0 := hT.blk
  refine calls_of_CW 10 [2] [(0, .pointer (some ⟨g, 0, none⟩))] Tryd.func14 rfl rfl rfl (by simp) args1 ?_
  have hE : Ext w w := Chg.refl
  refine CW.seq fun K1 hK1 => ?_
  refine CW.region ?_   -- region 0
  refine WL.val (Y.assign rfl) (by decide) ?_   -- t2 := assign c(0:i64)
  refine WL.nil ?_
  refine hK1 _ _ ?_; try clear hK1 K1
  refine CW.seq fun K2 hK2 => ?_
  refine CW.seq fun K3 hK3 => ?_
  refine CW.region ?_   -- region 1
  refine WL.val (Y.move rfl) (by decide) ?_   -- t3 := move t0
  refine WL.call Tryd.func22 rfl rfl rfl (made_any g r l _ hT) (by simp) ?_; rintro v w1 ⟨rfl, hx1⟩; have hz1 := hx1.size; have hE := hE.thenExt hx1; have hT := hT.ext hx1; have hB0 := hB0.ext hx1   -- t4 := call F22(t3) : 23
  refine WL.val (Y.not rfl) (by decide) ?_   -- t5 := unOp not 4 t4
  refine WL.nil ?_
  refine hK3 _ _ ?_; try clear hK3 K3
  first | refine CW.condD rfl (fun ht4 => ?_) (fun ht4 => ?_) | refine CW.condND rfl (fun ht4 => ?_) (fun ht4 => ?_) | refine CW.condN rfl (fun ht4 => ?_) (fun ht4 => ?_) | refine CW.cond rfl (fun ht4 => ?_) (fun ht4 => ?_)
  · -- then
    refine CW.seq fun K5 hK5 => ?_
    refine CW.region ?_   -- region 2
    refine WL.val (Y.assign rfl) (by decide) ?_   -- t2 := assign c(0:i64)
    refine WL.nil ?_
    refine hK5 _ _ ?_; try clear hK5 K5
    refine CW.ret ⟨_, rfl, ?_⟩
    exact absurd (show true = false by assumption) (by decide)
  -- else
  refine CW.skip ?_
  refine hK2 _ _ ?_; try clear hK2 K2
  refine CW.seq fun K6 hK6 => ?_
  refine CW.region ?_   -- region 3
  refine WL.val (Y.move rfl) (by decide) ?_   -- t6 := move t0
  refine WL.val (Y.nilCheck rfl) (by decide) ?_   -- t7 := nilCheck t6
  refine WL.val (Y.fieldAddr fo_storeStore1 rfl) (by decide) ?_   -- t8 := fieldAddr 58 t7 1
  refine WL.val (Y.load1 Tryd.underlying3 rfl hB0.mem.storeStore1 rfl) (by decide) ?_   -- t9 := load 3 t8
  refine WL.val (Y.assign rfl) (by decide) ?_   -- t2 := assign t9
  refine WL.nil ?_
  refine hK6 _ _ ?_; try clear hK6 K6
  refine CW.ret ⟨_, rfl, ?_⟩
  exact ⟨rfl, hE⟩
theorem eqb_any (u v : Value) (xs ys : List UInt8) (w : World) (hu : By w u xs) (hv : By w v ys) : Calls Tryd.prog 23 #[u, v] w (Ret fun r w' => r = .bool (decide (xs = ys)) ∧ Ext w w') := by
  obtain ⟨A, m, c, rfl, hm, hmc, hcm, hxs, _⟩ := hu
  obtain ⟨B, n, d, rfl, hn, hnd, hdm, hys, _⟩ := hv
  unfold maxLen at hcm hdm
  refine calls_of_CW 26 [4] [(0, .slice A m c), (1, .slice B n d)] Tryd.func23 rfl rfl rfl (by simp) args2 ?_
  refine CW.seq fun K1 hK1 => ?_
  refine CW.region ?_   -- region 0
  refine WL.val (Y.assign rfl) (by decide) ?_   -- t4 := assign c(false)
  refine WL.nil ?_
  refine hK1 _ _ ?_; try clear hK1 K1
  refine CW.seq fun K2 hK2 => ?_
  refine CW.seq fun K3 hK3 => ?_
  refine CW.region ?_   -- region 1
  refine WL.val (Y.move rfl) (by decide) ?_   -- t6 := move t0
  refine WL.val (Y.len_slice Tryd.underlying26 rfl) (by decide) ?_   -- t7 := call len(t6) : 26
  refine WL.val (Y.move rfl) (by decide) ?_   -- t8 := move t1
  refine WL.val (Y.len_slice Tryd.underlying26 rfl) (by decide) ?_   -- t9 := call len(t8) : 26
  refine WL.val (Y.neq rfl rfl) (by decide) ?_   -- t10 := binOp neq 3 t7 t9 3
  refine WL.nil ?_
  refine hK3 _ _ ?_; try clear hK3 K3
  first | refine CW.condD rfl (fun ht4 => ?_) (fun ht4 => ?_) | refine CW.condND rfl (fun ht4 => ?_) (fun ht4 => ?_) | refine CW.condN rfl (fun ht4 => ?_) (fun ht4 => ?_) | refine CW.cond rfl (fun ht4 => ?_) (fun ht4 => ?_)
  · -- then
    refine CW.seq fun K5 hK5 => ?_
    refine CW.region ?_   -- region 2
    refine WL.val (Y.assign rfl) (by decide) ?_   -- t4 := assign c(false)
    refine WL.nil ?_
    refine hK5 _ _ ?_; try clear hK5 K5
    refine CW.ret ⟨_, rfl, ?_⟩
    exact ⟨by rw [decide_eq_false (fun e => by subst e; omega)], Chg.refl⟩
  -- else
  refine CW.skip ?_
  refine hK2 _ _ ?_; try clear hK2 K2
  refine CW.seq fun K6 hK6 => ?_
  refine CW.seq fun K7 hK7 => ?_
  refine CW.region ?_   -- region 3
  refine WL.val (Y.move rfl) (by decide) ?_   -- t11 := move t0
  refine WL.val (Y.len_slice Tryd.underlying26 rfl) (by decide) ?_   -- t12 := call len(t11) : 26
  refine WL.val (Y.move rfl) (by decide) ?_   -- t13 := move c(0:i64)
  refine WL.nil ?_
  refine hK7 _ _ ?_; try clear hK7 K7
  refine CW.block ?_   -- block 0
  refine CW.loop (X := Nat) (fun x => [(0, .slice A m c), (1, .slice B n d), (12, .int .i64 (m : Int)), (13, .int .i64 (x : Int))]) (fun x w0 => x ≤ m ∧ xs.take x = ys.take x ∧ Ext w w0) (fun x => m - x) 0 (by repeat (first | exact Fr.le.nil | refine Fr.le.cons rfl ?_)) ⟨Nat.zero_le _, rfl, Chg.refl⟩ ?_
  intro x w1 hl1
  obtain ⟨hi, htk, hL1⟩ := hl1
  refine CW.seq fun K8 hK8 => ?_
  refine CW.region ?_   -- region 4
  refine WL.val (Y.lss rfl rfl) (by decide) ?_   -- t14 := binOp lss 3 t13 t12 3
  refine WL.nil ?_
  refine hK8 _ _ ?_; try clear hK8 K8
  refine CW.seq fun K9 hK9 => ?_
  first | refine CW.condD rfl (fun ht10 => ?_) (fun ht10 => ?_) | refine CW.condND rfl (fun ht10 => ?_) (fun ht10 => ?_) | refine CW.condN rfl (fun ht10 => ?_) (fun ht10 => ?_) | refine CW.cond rfl (fun ht10 => ?_) (fun ht10 => ?_)
  · -- then
    refine CW.skip ?_
    refine hK9 _ _ ?_; try clear hK9 K9
    refine CW.seq fun K11 hK11 => ?_
    refine CW.block ?_   -- block 1
    refine CW.seq fun K12 hK12 => ?_
    refine CW.region ?_   -- region 5
    refine WL.val (Y.move rfl) (by decide) ?_   -- t15 := move t13
    refine WL.val (Y.assign rfl) (by decide) ?_   -- t5 := assign t15
    refine WL.nil ?_
    refine hK12 _ _ ?_; try clear hK12 K12
    refine CW.seq fun K13 hK13 => ?_
    obtain ⟨a, ha⟩ : ∃ a, xs[x]? = some a := ⟨_, List.getElem?_eq_getElem (by omega)⟩
    obtain ⟨b, hb⟩ : ∃ b, ys[x]? = some b := ⟨_, List.getElem?_eq_getElem (by omega)⟩
    obtain ⟨aa, rfl, hma⟩ := hxs (by omega)
    obtain ⟨ab, rfl, hmb⟩ := hys (by omega)
    refine CW.quiet (fun wq => Ext w1 wq) (by kernel_rfl) (by kernel_rfl) Chg.drew ?_
    refine QL.val (fun wq hq => Y.move rfl) (by decide) ?_   -- t16 := move t0
    refine QL.val (fun wq hq => Y.move rfl) (by decide) ?_   -- t17 := move t5
    refine QL.val (fun wq hq => Y.indexAddrN Tryd.underlying26 rfl rfl sz0_uint8 (by omega)) (by decide) ?_   -- t18 := indexAddr 26 t16 t17
    refine QL.val (fun wq hq => Y.load1 Tryd.underlying5 rfl ((hma.ext hL1).ext hq (x * 1) _ (by rw [Nat.mul_one]; exact bytesC_get ha)) rfl) (by decide) ?_   -- t19 := load 5 t18
    refine QL.val (fun wq hq => Y.move rfl) (by decide) ?_   -- t20 := move t1
    refine QL.val (fun wq hq => Y.move rfl) (by decide) ?_   -- t21 := move t5
    refine QL.val (fun wq hq => Y.indexAddrN Tryd.underlying26 rfl rfl sz0_uint8 (by omega)) (by decide) ?_   -- t22 := indexAddr 26 t20 t21
    refine QL.val (fun wq hq => Y.load1 Tryd.underlying5 rfl ((hmb.ext hL1).ext hq (x * 1) _ (by rw [Nat.mul_one]; exact bytesC_get hb)) rfl) (by decide) ?_   -- t23 := load 5 t22
    refine QL.val (fun wq hq => Y.neq rfl rfl) (by decide) ?_   -- t24 := binOp neq 5 t19 t23 5
    refine QL.nil fun w2 hx2 => ?_
    refine hK13 _ _ ?_; try clear hK13 K13
    first | refine CW.condD rfl (fun ht14 => ?_) (fun ht14 => ?_) | refine CW.condND rfl (fun ht14 => ?_) (fun ht14 => ?_) | refine CW.condN rfl (fun ht14 => ?_) (fun ht14 => ?_) | refine CW.cond rfl (fun ht14 => ?_) (fun ht14 => ?_)
    · -- then
      refine CW.seq fun K15 hK15 => ?_
      refine CW.region ?_   -- region 7
      refine WL.val (Y.assign rfl) (by decide) ?_   -- t4 := assign c(false)
      refine WL.nil ?_
      refine hK15 _ _ ?_; try clear hK15 K15
      refine CW.ret ⟨_, rfl, ?_⟩
      exact ⟨by rw [decide_eq_false (bytes_part ha hb (by assumption))], (hL1.thenExt hx2)⟩
    -- else
    refine CW.skip ?_
    refine hK11 _ _ ?_; try clear hK11 K11
    refine CW.region ?_   -- region 8
    refine WL.val (Y.add rfl rfl ⟨by omega, by omega⟩) (by decide) ?_   -- t25 := binOp add 3 t13 c(1:i64) 3
    refine WL.val (Y.move rfl) (by decide) ?_   -- t13 := move t25
    refine WL.nil ?_
    refine ⟨x + 1, by omega, (by repeat (first | exact Fr.le.nil | refine Fr.le.cons rfl ?_)), by omega, bytes_more htk ha hb (by assumption), (hL1.thenExt hx2)⟩
  -- else
  refine CW.exit ?_   -- exit 0
  refine hK6 _ _ ?_; try clear hK6 K6
  refine CW.seq fun K16 hK16 => ?_
  refine CW.region ?_   -- region 9
  refine WL.val (Y.assign rfl) (by decide) ?_   -- t4 := assign c(true)
  refine WL.nil ?_
  refine hK16 _ _ ?_; try clear hK16 K16
  refine CW.ret ⟨_, rfl, ?_⟩
  exact ⟨by rw [decide_eq_true (bytes_whole (by omega) (by omega) htk)], hL1⟩
theorem stGet_any (g r : Nat) (l : List Ent) (d : Dig) (w : World) (hT : StoreAt w g r l) : Calls Tryd.prog 10 #[.pointer (some ⟨g, 0, none⟩), digV d] w (Ret fun v w' => ∃ u, v = .tuple #[u, .int .i64 (getI l d)] ∧ Own w' 5 1 u (bytesC (getB l d)) ∧ (∀ k, u.ownBlock = some k → w.heap.size ≤ k) ∧ Ext w w') := by
  have hB0 := hT.blk
  refine calls_of_CW 25 [4, 5] [(0, .pointer (some ⟨g, 0, none⟩)), (1, digV d)] Tryd.func10 rfl rfl rfl (by simp) args2 ?_
  have hE : Ext w w := Chg.refl
  refine CW.seq fun K1 hK1 => ?_
  refine CW.region ?_   -- region 0
  refine WL.box rfl rfl (by decide) fun g3 w1 hx1 hg3 hB3 => ?_   -- t3 := box 28 t1
  have hlt3 := hB3.lt; have hz1 := hx1.size
  have hM3 := hB3.mem; have hz1 := hx1.size; have hE := hE.thenExt hx1; have hT := hT.ext hx1; have hB0 := hB0.ext hx1
  refine WL.val (Y.assign rfl) (by decide) ?_   -- t4 := assign c(nilslice)
  refine WL.val (Y.assign rfl) (by decide) ?_   -- t5 := assign c(0:i64)
  refine WL.nil ?_
  refine hK1 _ _ ?_; try clear hK1 K1
  refine CW.seq fun K2 hK2 => ?_
  refine CW.seq fun K3 hK3 => ?_
  refine CW.region ?_   -- region 1
  refine WL.val (Y.move rfl) (by decide) ?_   -- t8 := move t0
  refine WL.call Tryd.func22 rfl rfl rfl (made_any g r l _ hT) (by simp) ?_; rintro v w2 ⟨rfl, hx2⟩; have hz2 := hx2.size; have hE := hE.thenExt hx2; have hT := hT.ext hx2; have hB0 := hB0.ext hx2; have hB3 := hB3.ext hx2   -- t9 := call F22(t8) : 23
  refine WL.val (Y.not rfl) (by decide) ?_   -- t10 := unOp not 4 t9
  refine WL.nil ?_
  refine hK3 _ _ ?_; try clear hK3 K3
  first | refine CW.condD rfl (fun ht4 => ?_) (fun ht4 => ?_) | refine CW.condND rfl (fun ht4 => ?_) (fun ht4 => ?_) | refine CW.condN rfl (fun ht4 => ?_) (fun ht4 => ?_) | refine CW.cond rfl (fun ht4 => ?_) (fun ht4 => ?_)
  · -- then
    refine CW.seq fun K5 hK5 => ?_
    refine CW.region ?_   -- region 2
    refine WL.val (Y.assign rfl) (by decide) ?_   -- t4 := assign c(nilslice)
    refine WL.val (Y.assign rfl) (by decide) ?_   -- t5 := assign c(2:i64)
    refine WL.nil ?_
    refine hK5 _ _ ?_; try clear hK5 K5
    refine CW.ret ⟨_, rfl, ?_⟩
    exact absurd (show true = false by assumption) (by decide)
  -- else
  refine CW.skip ?_
  refine hK2 _ _ ?_; try clear hK2 K2
  refine CW.seq fun K6 hK6 => ?_
  refine CW.quiet (fun wq => Ext w2 wq) (by kernel_rfl) (by kernel_rfl) Chg.drew ?_
  refine QL.val (fun wq hq => Y.move rfl) (by decide) ?_   -- t12 := move t0
  refine QL.val (fun wq hq => Y.nilCheck rfl) (by decide) ?_   -- t13 := nilCheck t12
  refine QL.val (fun wq hq => Y.fieldAddr fo_storeStore0 rfl) (by decide) ?_   -- t14 := fieldAddr 58 t13 0
  refine QL.val (fun wq hq => Y.load1 Tryd.underlying56 rfl (hB0.ext hq).mem.storeStore0 rfl) (by decide) ?_   -- t15 := load 56 t14
  refine QL.val (fun wq hq => Y.load Tryd.underlying28 rfl (hB3.ext hq).mem (sz_apiDigest _) rfl) (by decide) ?_   -- t16 := load 28 t3
  refine QL.val (fun wq hq => Y.lookupOk keyDig (fun _ => rfl) UM zero_bytes rfl rfl ((hT.ext hq).map.choose_spec.1)) (by decide) ?_   -- t17 := lookup 56 t15 t16 true
  refine QL.val (fun wq hq => Y.move rfl) (by decide) ?_   -- t11 := move t17
  refine QL.val (fun wq hq => Y.extract rfl rfl) (by decide) ?_   -- t18 := extract t11 0
  refine QL.val (fun wq hq => Y.extract rfl rfl) (by decide) ?_   -- t19 := extract t11 1
  refine QL.val (fun wq hq => Y.assign rfl) (by decide) ?_   -- t6 := assign t18
  refine QL.val (fun wq hq => Y.assign rfl) (by decide) ?_   -- t7 := assign t19
  refine QL.nil fun w3 hx3 => ?_
  have hz3 := hx3.size
  have hE := hE.thenExt hx3
  have hT := hT.ext hx3
  have hB0 := hB0.ext hx3
  have hB3 := hB3.ext hx3
  refine hK6 _ _ ?_; try clear hK6 K6
  refine CW.seq fun K7 hK7 => ?_
  refine CW.seq fun K8 hK8 => ?_
  refine CW.region ?_   -- region 4
  refine WL.val (Y.move rfl) (by decide) ?_   -- t20 := move t7
  refine WL.val (Y.not rfl) (by decide) ?_   -- t21 := unOp not 4 t20
  refine WL.nil ?_
  refine hK8 _ _ ?_; try clear hK8 K8
  first | refine CW.condD rfl (fun ht9 => ?_) (fun ht9 => ?_) | refine CW.condND rfl (fun ht9 => ?_) (fun ht9 => ?_) | refine CW.condN rfl (fun ht9 => ?_) (fun ht9 => ?_) | refine CW.cond rfl (fun ht9 => ?_) (fun ht9 => ?_)
  · -- then
    refine CW.seq fun K10 hK10 => ?_
    refine CW.region ?_   -- region 5
    refine WL.val (Y.assign rfl) (by decide) ?_   -- t4 := assign c(nilslice)
    refine WL.val (Y.assign rfl) (by decide) ?_   -- t5 := assign c(5:i64)
    refine WL.nil ?_
    refine hK10 _ _ ?_; try clear hK10 K10
    refine CW.ret ⟨_, rfl, ?_⟩
    have hn := at_none (l := l) (d := d) (by assumption)
    exact ⟨_, by rw [getI, hn]; rfl, by rw [getB, hn]; exact Own.nil, fun k hk => (by cases hk), hE⟩
  -- else
  refine CW.skip ?_
  refine hK7 _ _ ?_; try clear hK7 K7
  refine CW.seq fun K11 hK11 => ?_
  refine CW.region ?_   -- region 6
  refine WL.st (St.buildSlice0 Tryd.underlying26 sz_uint8) (by decide) fun v22 w4 hR4 => ?_   -- t22 := buildSlice 26 0 []
  obtain ⟨g22, rfl, hg22, hO22, hx4⟩ := hR4
  have hz4 := hx4.size
  have hE := hE.thenExt hx4
  have hT := hT.ext hx4
  obtain ⟨p, hp⟩ : ∃ p, at_ l d = some p := Option.isSome_iff_exists.1 (by assumption)
  obtain ⟨_, hj, _⟩ := mfind_some hp
  have hel := List.mem_of_getElem? hj
  have hv := hT.vals _ hel
  have hsh := hT.short _ hel
  obtain ⟨Av, mv, cv, hev⟩ := hv.lens
  rw [hev] at hv
  have hvl := hv.len.1
  rw [show mfind Ent.k d l 0 = some p from hp]
  refine WL.val (Y.move rfl) (by decide) ?_   -- t23 := move t6
  refine WL.st (St.app (xs := []) (ys := p.2.b) (xv := .slice Av mv cv) Tryd.underlying26 Tryd.underlying26 ai_u8 rfl (by rw [← hev]; rfl) hO22 (Src.by hv) (by simp only [List.length_nil]; omega)) (by decide) fun v24 w5 hR5 => ?_   -- t24 := call append(t22, t23) : 26,26
  have hfr : ∀ k, v24.ownBlock = some k → w.heap.size ≤ k := by
    rcases hR5.2.2 with h | h
    · intro k hk; rw [h] at hk; simp [Value.ownBlock] at hk; omega
    · intro k hk; have := h k hk; omega
  have hE := hE.step hR5.2.1 (fun k h => by simp [Value.ownBlock] at h; omega)
  refine WL.val (Y.assign rfl) (by decide) ?_   -- t4 := assign t24
  refine WL.val (Y.assign rfl) (by decide) ?_   -- t5 := assign c(0:i64)
  refine WL.nil ?_
  refine hK11 _ _ ?_; try clear hK11 K11
  refine CW.ret ⟨_, rfl, ?_⟩
  exact ⟨_, by rw [getI, hp]; rfl, by rw [getB, hp]; simpa using hR5.1, hfr, hE⟩
theorem stHas_any (g r : Nat) (l : List Ent) (d : Dig) (w : World) (hT : StoreAt w g r l) : Calls Tryd.prog 13 #[.pointer (some ⟨g, 0, none⟩), digV d] w (Ret fun v w' => v = .bool (at_ l d).isSome ∧ Ext w w') := by
  refine calls_of_CW 15 [4] [(0, .pointer (some ⟨g, 0, none⟩)), (1, digV d)] Tryd.func13 rfl rfl rfl (by simp) args2 ?_
  have hE : Ext w w := Chg.refl
  refine CW.seq fun K1 hK1 => ?_
  refine CW.region ?_   -- region 0
  refine WL.box rfl rfl (by decide) fun g3 w1 hx1 hg3 hB3 => ?_   -- t3 := box 28 t1
  have hlt3 := hB3.lt; have hz1 := hx1.size
  have hM3 := hB3.mem; have hz1 := hx1.size; have hE := hE.thenExt hx1; have hT := hT.ext hx1
  refine WL.val (Y.assign rfl) (by decide) ?_   -- t4 := assign c(false)
  refine WL.nil ?_
  refine hK1 _ _ ?_; try clear hK1 K1
  refine CW.seq fun K2 hK2 => ?_
  refine CW.region ?_   -- region 1
  refine WL.val (Y.move rfl) (by decide) ?_   -- t8 := move t0
  refine WL.val (Y.load Tryd.underlying28 rfl hB3.mem (sz_apiDigest _) rfl) (by decide) ?_   -- t9 := load 28 t3
  refine WL.call Tryd.func10 rfl rfl rfl (stGet_any g r l d _ hT) (by simp) ?_; rintro v10 w2 hR2   -- t10 := call F10(t8, t9) : 23,28
  obtain ⟨u, rfl, _, _, hx2⟩ := hR2
  have hE := hE.thenExt hx2
  refine WL.val (Y.move rfl) (by decide) ?_   -- t7 := move t10
  refine WL.val (Y.extract rfl rfl) (by decide) ?_   -- t11 := extract t7 0
  refine WL.val (Y.extract rfl rfl) (by decide) ?_   -- t12 := extract t7 1
  refine WL.val (Y.assign rfl) (by decide) ?_   -- t5 := assign t11
  refine WL.val (Y.assign rfl) (by decide) ?_   -- t6 := assign t12
  refine WL.nil ?_
  refine hK2 _ _ ?_; try clear hK2 K2
  refine CW.seq fun K3 hK3 => ?_
  refine CW.region ?_   -- region 2
  refine WL.val (Y.move rfl) (by decide) ?_   -- t13 := move t6
  refine WL.val (Y.eql rfl rfl) (by decide) ?_   -- t14 := binOp eql 29 t13 c(0:i64) 29
  refine WL.val (Y.assign rfl) (by decide) ?_   -- t4 := assign t14
  refine WL.nil ?_
  refine hK3 _ _ ?_; try clear hK3 K3
  refine CW.ret ⟨_, rfl, ?_⟩
  exact ⟨by cases h : at_ l d <;> simp [getI, h], hE⟩
end Go.Proofs.YtkbmlnkoejlgmaaDoor
