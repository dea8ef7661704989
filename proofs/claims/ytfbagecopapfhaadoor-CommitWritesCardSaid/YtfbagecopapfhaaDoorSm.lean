/- Whether two commits are the same: slices.Equal at digests and operations, commit.Same and the reference's, walked. No condition. -/
import Derived.Test.YtfbagecopapfhaaDoorEn
set_option linter.unusedSimpArgs false
set_option linter.unusedVariables false
namespace Go.Proofs.YtfbagecopapfhaaDoor
open Go.RowKit Go.Fw Go.Pl
/-- Whether two commits are the same. -/
def sameB (a b : ComD) : Bool := decide (a.parents = b.parents) && (a.author.toList == b.author.toList) && (a.note.toList == b.note.toList) && decide (a.ops = b.ops)
theorem list_part {α : Type} {xs ys : List α} {i : Nat} {a b : α} (ha : xs[i]? = some a) (hb : ys[i]? = some b) (h : ¬ a = b) : xs ≠ ys := by
  intro e; subst e; rw [ha] at hb; injection hb with hb; exact h hb
theorem list_whole {α : Type} {xs ys : List α} {i : Nat} (hl : xs.length = ys.length) (hi : xs.length ≤ i) (ht : xs.take i = ys.take i) : xs = ys := by
  rwa [List.take_of_length_le hi, List.take_of_length_le (by omega)] at ht
theorem take_more {α : Type} {xs ys : List α} {i : Nat} {a b : α} (ht : xs.take i = ys.take i) (ha : xs[i]? = some a) (hb : ys[i]? = some b) (h : a = b) : xs.take (i + 1) = ys.take (i + 1) := by
  rw [take_succ ha, take_succ hb, ht, h]

theorem eqd_any (u v : Value) (xs ys : List Dig) (w : World) (hu : Sl w digC 32 u xs) (hv : Sl w digC 32 v ys) : Calls Tryd.prog 32 #[u, v] w (Ret fun r w' => r = .bool (decide (xs = ys)) ∧ Ext w w') := by
  obtain ⟨A, m, c, rfl, hm, hmc, hcm, hxs⟩ := hu
  obtain ⟨B, n, d, rfl, hn, hnd, hdm, hys⟩ := hv
  unfold maxLen at hcm hdm
  refine calls_of_CW 26 [4] [(0, .slice A m c), (1, .slice B n d)] Tryd.func32 rfl rfl rfl (by simp) args2 ?_
  refine CW.seq fun K1 hK1 => ?_
  refine CW.region ?_   -- region 0
  refine WL.val (Y.assign rfl) (by decide) ?_   -- t4 := assign c(false)
  refine WL.nil ?_
  refine hK1 _ _ ?_; try clear hK1 K1
  refine CW.seq fun K2 hK2 => ?_
  refine CW.seq fun K3 hK3 => ?_
  refine CW.region ?_   -- region 1
  refine WL.val (Y.move rfl) (by decide) ?_   -- t6 := move t0
  refine WL.val (Y.len_slice Tryd.underlying22 rfl) (by decide) ?_   -- t7 := call len(t6) : 22
  refine WL.val (Y.move rfl) (by decide) ?_   -- t8 := move t1
  refine WL.val (Y.len_slice Tryd.underlying22 rfl) (by decide) ?_   -- t9 := call len(t8) : 22
  refine WL.val (Y.neq rfl rfl) (by decide) ?_   -- t10 := binOp neq 3 t7 t9 3
  refine WL.nil ?_
  refine hK3 _ _ ?_; try clear hK3 K3
  first | refine CW.condD rfl (fun ht4 => ?_) (fun ht4 => ?_) | refine CW.condND rfl (fun ht4 => ?_) (fun ht4 => ?_) | refine CW.condN rfl (fun ht4 => ?_) (fun ht4 => ?_) | refine CW.cond rfl (fun ht4 => ?_) (fun ht4 => ?_)
  · -- then
    refine CW.seq fun K5 hK5 => ?_
    refine CW.region ?_   -- region 2
    refine WL.val (Y.assign rfl) (by decide) ?_   -- t4 := assign c(false)
    refine WL.nil ?_
    refine hK5 _ _ ?_; try clear hK5 K5
    refine CW.ret ⟨_, rfl, ?_⟩
    exact ⟨by rw [decide_eq_false (fun e => by subst e; omega)], Chg.refl⟩
  -- else
  refine CW.skip ?_
  refine hK2 _ _ ?_; try clear hK2 K2
  refine CW.seq fun K6 hK6 => ?_
  refine CW.seq fun K7 hK7 => ?_
  refine CW.region ?_   -- region 3
  refine WL.val (Y.move rfl) (by decide) ?_   -- t11 := move t0
  refine WL.val (Y.len_slice Tryd.underlying22 rfl) (by decide) ?_   -- t12 := call len(t11) : 22
  refine WL.val (Y.move rfl) (by decide) ?_   -- t13 := move c(0:i64)
  refine WL.nil ?_
  refine hK7 _ _ ?_; try clear hK7 K7
  refine CW.block ?_   -- block 0
  refine CW.loop (X := Nat) (fun x => [(0, .slice A m c), (1, .slice B n d), (12, .int .i64 (m : Int)), (13, .int .i64 (x : Int))]) (fun x w0 => x ≤ m ∧ xs.take x = ys.take x ∧ Ext w w0) (fun x => m - x) 0 (by repeat (first | exact Fr.le.nil | refine Fr.le.cons rfl ?_)) ⟨Nat.zero_le _, rfl, Chg.refl⟩ ?_
  intro x w1 hl1
  obtain ⟨hi, htk, hL1⟩ := hl1
  refine CW.seq fun K8 hK8 => ?_
  refine CW.region ?_   -- region 4
  refine WL.val (Y.lss rfl rfl) (by decide) ?_   -- t14 := binOp lss 3 t13 t12 3
  refine WL.nil ?_
  refine hK8 _ _ ?_; try clear hK8 K8
  refine CW.seq fun K9 hK9 => ?_
  first | refine CW.condD rfl (fun ht10 => ?_) (fun ht10 => ?_) | refine CW.condND rfl (fun ht10 => ?_) (fun ht10 => ?_) | refine CW.condN rfl (fun ht10 => ?_) (fun ht10 => ?_) | refine CW.cond rfl (fun ht10 => ?_) (fun ht10 => ?_)
  · -- then
    refine CW.skip ?_
    refine hK9 _ _ ?_; try clear hK9 K9
    refine CW.seq fun K11 hK11 => ?_
    refine CW.block ?_   -- block 1
    refine CW.seq fun K12 hK12 => ?_
    refine CW.region ?_   -- region 5
    refine WL.val (Y.move rfl) (by decide) ?_   -- t15 := move t13
    refine WL.val (Y.assign rfl) (by decide) ?_   -- t5 := assign t15
    refine WL.nil ?_
    refine hK12 _ _ ?_; try clear hK12 K12
    refine CW.seq fun K13 hK13 => ?_
    obtain ⟨a, ha⟩ : ∃ a, xs[x]? = some a := ⟨_, List.getElem?_eq_getElem (by omega)⟩
    obtain ⟨b, hb⟩ : ∃ b, ys[x]? = some b := ⟨_, List.getElem?_eq_getElem (by omega)⟩
    obtain ⟨aa, rfl, hma⟩ := hxs _ a ha
    obtain ⟨ab, rfl, hmb⟩ := hys _ b hb
    refine CW.quiet (fun wq => Ext w1 wq) (by kernel_rfl) (by kernel_rfl) Chg.drew ?_
    refine QL.val (fun wq hq => Y.move rfl) (by decide) ?_   -- t16 := move t0
    refine QL.val (fun wq hq => Y.move rfl) (by decide) ?_   -- t17 := move t5
    refine QL.val (fun wq hq => Y.indexAddrN Tryd.underlying22 rfl rfl sz0_apiDigest (by omega)) (by decide) ?_   -- t18 := indexAddr 22 t16 t17
    refine QL.val (fun wq hq => Y.load Tryd.underlying34 rfl ((hma.ext hL1).ext hq) (sz_apiDigest _) rfl) (by decide) ?_   -- t19 := load 34 t18
    refine QL.val (fun wq hq => Y.move rfl) (by decide) ?_   -- t20 := move t1
    refine QL.val (fun wq hq => Y.move rfl) (by decide) ?_   -- t21 := move t5
    refine QL.val (fun wq hq => Y.indexAddrN Tryd.underlying22 rfl rfl sz0_apiDigest (by omega)) (by decide) ?_   -- t22 := indexAddr 22 t20 t21
    refine QL.val (fun wq hq => Y.load Tryd.underlying34 rfl ((hmb.ext hL1).ext hq) (sz_apiDigest _) rfl) (by decide) ?_   -- t23 := load 34 t22
    refine QL.val (fun wq hq => Y.neq_apiDigest rfl rfl) (by decide) ?_   -- t24 := binOp neq 34 t19 t23 34
    refine QL.nil fun w2 hx2 => ?_
    refine hK13 _ _ ?_; try clear hK13 K13
    first | refine CW.condD rfl (fun ht14 => ?_) (fun ht14 => ?_) | refine CW.condND rfl (fun ht14 => ?_) (fun ht14 => ?_) | refine CW.condN rfl (fun ht14 => ?_) (fun ht14 => ?_) | refine CW.cond rfl (fun ht14 => ?_) (fun ht14 => ?_)
    · -- then
      refine CW.seq fun K15 hK15 => ?_
      refine CW.region ?_   -- region 7
      refine WL.val (Y.assign rfl) (by decide) ?_   -- t4 := assign c(false)
      refine WL.nil ?_
      refine hK15 _ _ ?_; try clear hK15 K15
      refine CW.ret ⟨_, rfl, ?_⟩
      exact ⟨by rw [decide_eq_false (list_part ha hb (by assumption))], (hL1.thenExt hx2)⟩
    -- else
    refine CW.skip ?_
    refine hK11 _ _ ?_; try clear hK11 K11
    refine CW.region ?_   -- region 8
    refine WL.val (Y.add rfl rfl ⟨by omega, by omega⟩) (by decide) ?_   -- t25 := binOp add 3 t13 c(1:i64) 3
    refine WL.val (Y.move rfl) (by decide) ?_   -- t13 := move t25
    refine WL.nil ?_
    refine ⟨x + 1, by omega, (by repeat (first | exact Fr.le.nil | refine Fr.le.cons rfl ?_)), by omega, take_more htk ha hb (by assumption), (hL1.thenExt hx2)⟩
  -- else
  refine CW.exit ?_   -- exit 0
  refine hK6 _ _ ?_; try clear hK6 K6
  refine CW.seq fun K16 hK16 => ?_
  refine CW.region ?_   -- region 9
  refine WL.val (Y.assign rfl) (by decide) ?_   -- t4 := assign c(true)
  refine WL.nil ?_
  refine hK16 _ _ ?_; try clear hK16 K16
  refine CW.ret ⟨_, rfl, ?_⟩
  exact ⟨by rw [decide_eq_true (list_whole (by omega) (by omega) htk)], hL1⟩
theorem eqo_any (u v : Value) (xs ys : List OpD) (w : World) (hu : Sl w opC 37 u xs) (hv : Sl w opC 37 v ys) : Calls Tryd.prog 33 #[u, v] w (Ret fun r w' => r = .bool (decide (xs = ys)) ∧ Ext w w') := by
  obtain ⟨A, m, c, rfl, hm, hmc, hcm, hxs⟩ := hu
  obtain ⟨B, n, d, rfl, hn, hnd, hdm, hys⟩ := hv
  unfold maxLen at hcm hdm
  refine calls_of_CW 26 [4] [(0, .slice A m c), (1, .slice B n d)] Tryd.func33 rfl rfl rfl (by simp) args2 ?_
  refine CW.seq fun K1 hK1 => ?_
  refine CW.region ?_   -- region 0
  refine WL.val (Y.assign rfl) (by decide) ?_   -- t4 := assign c(false)
  refine WL.nil ?_
  refine hK1 _ _ ?_; try clear hK1 K1
  refine CW.seq fun K2 hK2 => ?_
  refine CW.seq fun K3 hK3 => ?_
  refine CW.region ?_   -- region 1
  refine WL.val (Y.move rfl) (by decide) ?_   -- t6 := move t0
  refine WL.val (Y.len_slice Tryd.underlying23 rfl) (by decide) ?_   -- t7 := call len(t6) : 23
  refine WL.val (Y.move rfl) (by decide) ?_   -- t8 := move t1
  refine WL.val (Y.len_slice Tryd.underlying23 rfl) (by decide) ?_   -- t9 := call len(t8) : 23
  refine WL.val (Y.neq rfl rfl) (by decide) ?_   -- t10 := binOp neq 3 t7 t9 3
  refine WL.nil ?_
  refine hK3 _ _ ?_; try clear hK3 K3
  first | refine CW.condD rfl (fun ht4 => ?_) (fun ht4 => ?_) | refine CW.condND rfl (fun ht4 => ?_) (fun ht4 => ?_) | refine CW.condN rfl (fun ht4 => ?_) (fun ht4 => ?_) | refine CW.cond rfl (fun ht4 => ?_) (fun ht4 => ?_)
  · -- then
    refine CW.seq fun K5 hK5 => ?_
    refine CW.region ?_   -- region 2
    refine WL.val (Y.assign rfl) (by decide) ?_   -- t4 := assign c(false)
    refine WL.nil ?_
    refine hK5 _ _ ?_; try clear hK5 K5
    refine CW.ret ⟨_, rfl, ?_⟩
    exact ⟨by rw [decide_eq_false (fun e => by subst e; omega)], Chg.refl⟩
  -- else
  refine CW.skip ?_
  refine hK2 _ _ ?_; try clear hK2 K2
  refine CW.seq fun K6 hK6 => ?_
  refine CW.seq fun K7 hK7 => ?_
  refine CW.region ?_   -- region 3
  refine WL.val (Y.move rfl) (by decide) ?_   -- t11 := move t0
  refine WL.val (Y.len_slice Tryd.underlying23 rfl) (by decide) ?_   -- t12 := call len(t11) : 23
  refine WL.val (Y.move rfl) (by decide) ?_   -- t13 := move c(0:i64)
  refine WL.nil ?_
  refine hK7 _ _ ?_; try clear hK7 K7
  refine CW.block ?_   -- block 0
  refine CW.loop (X := Nat) (fun x => [(0, .slice A m c), (1, .slice B n d), (12, .int .i64 (m : Int)), (13, .int .i64 (x : Int))]) (fun x w0 => x ≤ m ∧ xs.take x = ys.take x ∧ Ext w w0) (fun x => m - x) 0 (by repeat (first | exact Fr.le.nil | refine Fr.le.cons rfl ?_)) ⟨Nat.zero_le _, rfl, Chg.refl⟩ ?_
  intro x w1 hl1
  obtain ⟨hi, htk, hL1⟩ := hl1
  refine CW.seq fun K8 hK8 => ?_
  refine CW.region ?_   -- region 4
  refine WL.val (Y.lss rfl rfl) (by decide) ?_   -- t14 := binOp lss 3 t13 t12 3
  refine WL.nil ?_
  refine hK8 _ _ ?_; try clear hK8 K8
  refine CW.seq fun K9 hK9 => ?_
  first | refine CW.condD rfl (fun ht10 => ?_) (fun ht10 => ?_) | refine CW.condND rfl (fun ht10 => ?_) (fun ht10 => ?_) | refine CW.condN rfl (fun ht10 => ?_) (fun ht10 => ?_) | refine CW.cond rfl (fun ht10 => ?_) (fun ht10 => ?_)
  · -- then
    refine CW.skip ?_
    refine hK9 _ _ ?_; try clear hK9 K9
    refine CW.seq fun K11 hK11 => ?_
    refine CW.block ?_   -- block 1
    refine CW.seq fun K12 hK12 => ?_
    refine CW.region ?_   -- region 5
    refine WL.val (Y.move rfl) (by decide) ?_   -- t15 := move t13
    refine WL.val (Y.assign rfl) (by decide) ?_   -- t5 := assign t15
    refine WL.nil ?_
    refine hK12 _ _ ?_; try clear hK12 K12
    refine CW.seq fun K13 hK13 => ?_
    obtain ⟨a, ha⟩ : ∃ a, xs[x]? = some a := ⟨_, List.getElem?_eq_getElem (by omega)⟩
    obtain ⟨b, hb⟩ : ∃ b, ys[x]? = some b := ⟨_, List.getElem?_eq_getElem (by omega)⟩
    obtain ⟨aa, rfl, hma⟩ := hxs _ a ha
    obtain ⟨ab, rfl, hmb⟩ := hys _ b hb
    refine CW.quiet (fun wq => Ext w1 wq) (by kernel_rfl) (by kernel_rfl) Chg.drew ?_
    refine QL.val (fun wq hq => Y.move rfl) (by decide) ?_   -- t16 := move t0
    refine QL.val (fun wq hq => Y.move rfl) (by decide) ?_   -- t17 := move t5
    refine QL.val (fun wq hq => Y.indexAddrN Tryd.underlying23 rfl rfl sz0_apiOp (by omega)) (by decide) ?_   -- t18 := indexAddr 23 t16 t17
    refine QL.val (fun wq hq => Y.load Tryd.underlying51 rfl ((hma.ext hL1).ext hq) (sz_apiOp _) rfl) (by decide) ?_   -- t19 := load 51 t18
    refine QL.val (fun wq hq => Y.move rfl) (by decide) ?_   -- t20 := move t1
    refine QL.val (fun wq hq => Y.move rfl) (by decide) ?_   -- t21 := move t5
    refine QL.val (fun wq hq => Y.indexAddrN Tryd.underlying23 rfl rfl sz0_apiOp (by omega)) (by decide) ?_   -- t22 := indexAddr 23 t20 t21
    refine QL.val (fun wq hq => Y.load Tryd.underlying51 rfl ((hmb.ext hL1).ext hq) (sz_apiOp _) rfl) (by decide) ?_   -- t23 := load 51 t22
    refine QL.val (fun wq hq => Y.neq_apiOp rfl rfl) (by decide) ?_   -- t24 := binOp neq 51 t19 t23 51
    refine QL.nil fun w2 hx2 => ?_
    refine hK13 _ _ ?_; try clear hK13 K13
    first | refine CW.condD rfl (fun ht14 => ?_) (fun ht14 => ?_) | refine CW.condND rfl (fun ht14 => ?_) (fun ht14 => ?_) | refine CW.condN rfl (fun ht14 => ?_) (fun ht14 => ?_) | refine CW.cond rfl (fun ht14 => ?_) (fun ht14 => ?_)
    · -- then
      refine CW.seq fun K15 hK15 => ?_
      refine CW.region ?_   -- region 7
      refine WL.val (Y.assign rfl) (by decide) ?_   -- t4 := assign c(false)
      refine WL.nil ?_
      refine hK15 _ _ ?_; try clear hK15 K15
      refine CW.ret ⟨_, rfl, ?_⟩
      exact ⟨by rw [decide_eq_false (list_part ha hb (by assumption))], (hL1.thenExt hx2)⟩
    -- else
    refine CW.skip ?_
    refine hK11 _ _ ?_; try clear hK11 K11
    refine CW.region ?_   -- region 8
    refine WL.val (Y.add rfl rfl ⟨by omega, by omega⟩) (by decide) ?_   -- t25 := binOp add 3 t13 c(1:i64) 3
    refine WL.val (Y.move rfl) (by decide) ?_   -- t13 := move t25
    refine WL.nil ?_
    refine ⟨x + 1, by omega, (by repeat (first | exact Fr.le.nil | refine Fr.le.cons rfl ?_)), by omega, take_more htk ha hb (by assumption), (hL1.thenExt hx2)⟩
  -- else
  refine CW.exit ?_   -- exit 0
  refine hK6 _ _ ?_; try clear hK6 K6
  refine CW.seq fun K16 hK16 => ?_
  refine CW.region ?_   -- region 9
  refine WL.val (Y.assign rfl) (by decide) ?_   -- t4 := assign c(true)
  refine WL.nil ?_
  refine hK16 _ _ ?_; try clear hK16 K16
  refine CW.ret ⟨_, rfl, ?_⟩
  exact ⟨by rw [decide_eq_true (list_whole (by omega) (by omega) htk)], hL1⟩
theorem rSameD_any (u v : Value) (xs ys : List Dig) (w : World) (hu : Sl w digC 32 u xs) (hv : Sl w digC 32 v ys) : Calls Tryd.prog 25 #[u, v] w (Ret fun r w' => r = .bool (decide (xs = ys)) ∧ Ext w w') := by
  obtain ⟨A, m, c, rfl, hm, hmc, hcm, hxs⟩ := hu
  obtain ⟨B, n, d, rfl, hn, hnd, hdm, hys⟩ := hv
  unfold maxLen at hcm hdm
  refine calls_of_CW 26 [4] [(0, .slice A m c), (1, .slice B n d)] Tryd.func25 rfl rfl rfl (by simp) args2 ?_
  refine CW.seq fun K1 hK1 => ?_
  refine CW.region ?_   -- region 0
  refine WL.val (Y.assign rfl) (by decide) ?_   -- t4 := assign c(false)
  refine WL.nil ?_
  refine hK1 _ _ ?_; try clear hK1 K1
  refine CW.seq fun K2 hK2 => ?_
  refine CW.seq fun K3 hK3 => ?_
  refine CW.region ?_   -- region 1
  refine WL.val (Y.move rfl) (by decide) ?_   -- t6 := move t0
  refine WL.val (Y.len_slice Tryd.underlying22 rfl) (by decide) ?_   -- t7 := call len(t6) : 22
  refine WL.val (Y.move rfl) (by decide) ?_   -- t8 := move t1
  refine WL.val (Y.len_slice Tryd.underlying22 rfl) (by decide) ?_   -- t9 := call len(t8) : 22
  refine WL.val (Y.neq rfl rfl) (by decide) ?_   -- t10 := binOp neq 3 t7 t9 3
  refine WL.nil ?_
  refine hK3 _ _ ?_; try clear hK3 K3
  first | refine CW.condD rfl (fun ht4 => ?_) (fun ht4 => ?_) | refine CW.condND rfl (fun ht4 => ?_) (fun ht4 => ?_) | refine CW.condN rfl (fun ht4 => ?_) (fun ht4 => ?_) | refine CW.cond rfl (fun ht4 => ?_) (fun ht4 => ?_)
  · -- then
    refine CW.seq fun K5 hK5 => ?_
    refine CW.region ?_   -- region 2
    refine WL.val (Y.assign rfl) (by decide) ?_   -- t4 := assign c(false)
    refine WL.nil ?_
    refine hK5 _ _ ?_; try clear hK5 K5
    refine CW.ret ⟨_, rfl, ?_⟩
    exact ⟨by rw [decide_eq_false (fun e => by subst e; omega)], Chg.refl⟩
  -- else
  refine CW.skip ?_
  refine hK2 _ _ ?_; try clear hK2 K2
  refine CW.seq fun K6 hK6 => ?_
  refine CW.seq fun K7 hK7 => ?_
  refine CW.region ?_   -- region 3
  refine WL.val (Y.assign rfl) (by decide) ?_   -- t5 := assign c(0:i64)
  refine WL.nil ?_
  refine hK7 _ _ ?_; try clear hK7 K7
  refine CW.block ?_   -- block 0
  refine CW.loop (X := Nat) (fun x => [(0, .slice A m c), (1, .slice B n d), (5, .int .i64 (x : Int))]) (fun x w0 => x ≤ m ∧ xs.take x = ys.take x ∧ Ext w w0) (fun x => m - x) 0 (by repeat (first | exact Fr.le.nil | refine Fr.le.cons rfl ?_)) ⟨Nat.zero_le _, rfl, Chg.refl⟩ ?_
  intro x w1 hl1
  obtain ⟨hi, htk, hL1⟩ := hl1
  refine CW.seq fun K8 hK8 => ?_
  refine CW.seq fun K9 hK9 => ?_
  refine CW.region ?_   -- region 4
  refine WL.val (Y.move rfl) (by decide) ?_   -- t11 := move t5
  refine WL.val (Y.move rfl) (by decide) ?_   -- t12 := move t0
  refine WL.val (Y.len_slice Tryd.underlying22 rfl) (by decide) ?_   -- t13 := call len(t12) : 22
  refine WL.val (Y.lss rfl rfl) (by decide) ?_   -- t14 := binOp lss 3 t11 t13 3
  refine WL.nil ?_
  refine hK9 _ _ ?_; try clear hK9 K9
  first | refine CW.condD rfl (fun ht10 => ?_) (fun ht10 => ?_) | refine CW.condND rfl (fun ht10 => ?_) (fun ht10 => ?_) | refine CW.condN rfl (fun ht10 => ?_) (fun ht10 => ?_) | refine CW.cond rfl (fun ht10 => ?_) (fun ht10 => ?_)
  · -- then
    refine CW.skip ?_
    refine hK8 _ _ ?_; try clear hK8 K8
    refine CW.seq fun K11 hK11 => ?_
    refine CW.block ?_   -- block 1
    refine CW.seq fun K12 hK12 => ?_
    obtain ⟨a, ha⟩ : ∃ a, xs[x]? = some a := ⟨_, List.getElem?_eq_getElem (by omega)⟩
    obtain ⟨b, hb⟩ : ∃ b, ys[x]? = some b := ⟨_, List.getElem?_eq_getElem (by omega)⟩
    obtain ⟨aa, rfl, hma⟩ := hxs _ a ha
    obtain ⟨ab, rfl, hmb⟩ := hys _ b hb
    refine CW.quiet (fun wq => Ext w1 wq) (by kernel_rfl) (by kernel_rfl) Chg.drew ?_
    refine QL.val (fun wq hq => Y.move rfl) (by decide) ?_   -- t17 := move t0
    refine QL.val (fun wq hq => Y.move rfl) (by decide) ?_   -- t18 := move t5
    refine QL.val (fun wq hq => Y.indexAddrN Tryd.underlying22 rfl rfl sz0_apiDigest (by omega)) (by decide) ?_   -- t19 := indexAddr 22 t17 t18
    refine QL.val (fun wq hq => Y.load Tryd.underlying34 rfl ((hma.ext hL1).ext hq) (sz_apiDigest _) rfl) (by decide) ?_   -- t20 := load 34 t19
    refine QL.val (fun wq hq => Y.move rfl) (by decide) ?_   -- t21 := move t1
    refine QL.val (fun wq hq => Y.move rfl) (by decide) ?_   -- t22 := move t5
    refine QL.val (fun wq hq => Y.indexAddrN Tryd.underlying22 rfl rfl sz0_apiDigest (by omega)) (by decide) ?_   -- t23 := indexAddr 22 t21 t22
    refine QL.val (fun wq hq => Y.load Tryd.underlying34 rfl ((hmb.ext hL1).ext hq) (sz_apiDigest _) rfl) (by decide) ?_   -- t24 := load 34 t23
    refine QL.val (fun wq hq => Y.neq_apiDigest rfl rfl) (by decide) ?_   -- t25 := binOp neq 34 t20 t24 34
    refine QL.nil fun w2 hx2 => ?_
    refine hK12 _ _ ?_; try clear hK12 K12
    first | refine CW.condD rfl (fun ht13 => ?_) (fun ht13 => ?_) | refine CW.condND rfl (fun ht13 => ?_) (fun ht13 => ?_) | refine CW.condN rfl (fun ht13 => ?_) (fun ht13 => ?_) | refine CW.cond rfl (fun ht13 => ?_) (fun ht13 => ?_)
    · -- then
      refine CW.seq fun K14 hK14 => ?_
      refine CW.region ?_   -- region 7
      refine WL.val (Y.assign rfl) (by decide) ?_   -- t4 := assign c(false)
      refine WL.nil ?_
      refine hK14 _ _ ?_; try clear hK14 K14
      refine CW.ret ⟨_, rfl, ?_⟩
      exact ⟨by rw [decide_eq_false (list_part ha hb (by assumption))], (hL1.thenExt hx2)⟩
    -- else
    refine CW.skip ?_
    refine hK11 _ _ ?_; try clear hK11 K11
    refine CW.region ?_   -- region 5
    refine WL.val (Y.move rfl) (by decide) ?_   -- t15 := move t5
    refine WL.val (Y.add rfl rfl ⟨by omega, by omega⟩) (by decide) ?_   -- t16 := binOp add 3 t15 c(1:i64) 3
    refine WL.val (Y.assign rfl) (by decide) ?_   -- t5 := assign t16
    refine WL.nil ?_
    refine ⟨x + 1, by omega, (by repeat (first | exact Fr.le.nil | refine Fr.le.cons rfl ?_)), by omega, take_more htk ha hb (by assumption), (hL1.thenExt hx2)⟩
  -- else
  refine CW.exit ?_   -- exit 0
  refine hK6 _ _ ?_; try clear hK6 K6
  refine CW.seq fun K15 hK15 => ?_
  refine CW.region ?_   -- region 8
  refine WL.val (Y.assign rfl) (by decide) ?_   -- t4 := assign c(true)
  refine WL.nil ?_
  refine hK15 _ _ ?_; try clear hK15 K15
  refine CW.ret ⟨_, rfl, ?_⟩
  exact ⟨by rw [decide_eq_true (list_whole (by omega) (by omega) htk)], hL1⟩
theorem same_any (u v : Value) (a b : ComD) (w : World) (hu : Com w u a) (hv : Com w v b) : Calls Tryd.prog 14 #[u, v] w (Ret fun r w' => r = .bool (sameB a b) ∧ Ext w w') := by
  obtain ⟨pa, oa, rfl, hpa, hoa, haa, hna⟩ := hu
  obtain ⟨pb, ob, rfl, hpb, hob, hab, hnb⟩ := hv
  refine calls_of_CW 31 [4] [(0, .agg (comC pa a.author a.note oa).toArray), (1, .agg (comC pb b.author b.note ob).toArray)] Tryd.func14 rfl rfl rfl (by simp) args2 ?_
  refine CW.seq fun K1 hK1 => ?_
  refine CW.region ?_   -- region 0
  refine WL.box rfl rfl (by decide) fun g2 w1 hx1 hg2 hB2 => ?_   -- t2 := box 25 t0
  have hM2 := hB2.mem; have hpa := hpa.ext hx1; have hoa := hoa.ext hx1; have hpb := hpb.ext hx1; have hob := hob.ext hx1
  refine WL.box rfl rfl (by decide) fun g3 w2 hx2 hg3 hB3 => ?_   -- t3 := box 25 t1
  have hM3 := hB3.mem; have hpa := hpa.ext hx2; have hoa := hoa.ext hx2; have hpb := hpb.ext hx2; have hob := hob.ext hx2; have hM2 := hM2.ext hx2
  refine WL.val (Y.assign rfl) (by decide) ?_   -- t4 := assign c(false)
  refine WL.nil ?_
  refine hK1 _ _ ?_; try clear hK1 K1
  refine CW.seq fun K2 hK2 => ?_
  refine CW.region ?_   -- region 1
  refine WL.val (Y.fieldAddr fo_apiCommit0 rfl) (by decide) ?_   -- t5 := fieldAddr 25 t2 0
  refine WL.val (Y.load1 Tryd.underlying22 rfl hM2.com0 rfl) (by decide) ?_   -- t6 := load 22 t5
  refine WL.val (Y.fieldAddr fo_apiCommit0 rfl) (by decide) ?_   -- t7 := fieldAddr 25 t3 0
  refine WL.val (Y.load1 Tryd.underlying22 rfl hM3.com0 rfl) (by decide) ?_   -- t8 := load 22 t7
  refine WL.call Tryd.func32 rfl rfl rfl ((eqd_any _ _ _ _ _ hpa hpb)) (by simp) ?_; rintro v w3 ⟨rfl, hx3⟩; have hpa := hpa.ext hx3; have hoa := hoa.ext hx3; have hpb := hpb.ext hx3; have hob := hob.ext hx3; have hM2 := hM2.ext hx3; have hM3 := hM3.ext hx3   -- t9 := call F32(t6, t8) : 22,22
  refine WL.val (Y.move rfl) (by decide) ?_   -- t10 := move t9
  first | refine WL.casesD (d := 10) rfl (fun hg10 => ?_) (fun hg10 => ?_) | refine WL.casesND (d := 10) rfl (fun hg10 => ?_) (fun hg10 => ?_) | refine WL.cases (d := 10) rfl (fun hg10 => ?_) (fun hg10 => ?_)
  · -- t10 = T
    refine WL.gval rfl rfl (Y.fieldAddr fo_apiCommit1 rfl) (by decide) ?_   -- t11 := fieldAddr 25 t2 1 [if 5=true]
    refine WL.gval rfl rfl (Y.load1 Tryd.underlying9 rfl hM2.com1 rfl) (by decide) ?_   -- t12 := load 9 t11 [if 5=true]
    refine WL.gval rfl rfl (Y.fieldAddr fo_apiCommit1 rfl) (by decide) ?_   -- t13 := fieldAddr 25 t3 1 [if 5=true]
    refine WL.gval rfl rfl (Y.load1 Tryd.underlying9 rfl hM3.com1 rfl) (by decide) ?_   -- t14 := load 9 t13 [if 5=true]
    refine WL.gval rfl rfl (Y.eql_string rfl rfl) (by decide) ?_   -- t15 := binOp eql 9 t12 t14 9 [if 5=true]
    refine WL.val (Y.pick rfl rfl) (by decide) ?_   -- t16 := pick t10 t15 c(false)
    refine WL.val (Y.move rfl) (by decide) ?_   -- t17 := move t16
    first | refine WL.casesD (d := 17) rfl (fun hg17 => ?_) (fun hg17 => ?_) | refine WL.casesND (d := 17) rfl (fun hg17 => ?_) (fun hg17 => ?_) | refine WL.cases (d := 17) rfl (fun hg17 => ?_) (fun hg17 => ?_)
    · -- t17 = T
      refine WL.gval rfl rfl (Y.fieldAddr fo_apiCommit2 rfl) (by decide) ?_   -- t18 := fieldAddr 25 t2 2 [if 12=true]
      refine WL.gval rfl rfl (Y.load1 Tryd.underlying9 rfl hM2.com2 rfl) (by decide) ?_   -- t19 := load 9 t18 [if 12=true]
      refine WL.gval rfl rfl (Y.fieldAddr fo_apiCommit2 rfl) (by decide) ?_   -- t20 := fieldAddr 25 t3 2 [if 12=true]
      refine WL.gval rfl rfl (Y.load1 Tryd.underlying9 rfl hM3.com2 rfl) (by decide) ?_   -- t21 := load 9 t20 [if 12=true]
      refine WL.gval rfl rfl (Y.eql_string rfl rfl) (by decide) ?_   -- t22 := binOp eql 9 t19 t21 9 [if 12=true]
      refine WL.val (Y.pick rfl rfl) (by decide) ?_   -- t23 := pick t17 t22 c(false)
      refine WL.val (Y.move rfl) (by decide) ?_   -- t24 := move t23
      first | refine WL.casesD (d := 24) rfl (fun hg24 => ?_) (fun hg24 => ?_) | refine WL.casesND (d := 24) rfl (fun hg24 => ?_) (fun hg24 => ?_) | refine WL.cases (d := 24) rfl (fun hg24 => ?_) (fun hg24 => ?_)
      · -- t24 = T
        refine WL.gval rfl rfl (Y.fieldAddr fo_apiCommit3 rfl) (by decide) ?_   -- t25 := fieldAddr 25 t2 3 [if 19=true]
        refine WL.gval rfl rfl (Y.load1 Tryd.underlying23 rfl hM2.com3 rfl) (by decide) ?_   -- t26 := load 23 t25 [if 19=true]
        refine WL.gval rfl rfl (Y.fieldAddr fo_apiCommit3 rfl) (by decide) ?_   -- t27 := fieldAddr 25 t3 3 [if 19=true]
        refine WL.gval rfl rfl (Y.load1 Tryd.underlying23 rfl hM3.com3 rfl) (by decide) ?_   -- t28 := load 23 t27 [if 19=true]
        refine WL.gcall rfl rfl Tryd.func33 rfl rfl rfl ((eqo_any _ _ _ _ _ hoa hob)) (by decide) ?_; rintro v w4 ⟨rfl, hx4⟩; have hpa := hpa.ext hx4; have hoa := hoa.ext hx4; have hpb := hpb.ext hx4; have hob := hob.ext hx4; have hM2 := hM2.ext hx4; have hM3 := hM3.ext hx4   -- t29 := call F33(t26, t28) : 23,23 [if 19=true]
        refine WL.val (Y.pick rfl rfl) (by decide) ?_   -- t30 := pick t24 t29 c(false)
        refine WL.val (Y.assign rfl) (by decide) ?_   -- t4 := assign t30
        refine WL.nil ?_
        refine hK2 _ _ ?_; try clear hK2 K2
        refine CW.ret ⟨_, rfl, ?_⟩
        exact ⟨by simp_all [sameB], (((hx1.thenExt hx2).thenExt hx3).thenExt hx4)⟩
      · -- t24 = F
        refine WL.goff rfl rfl (by decide) ?_   -- t25 := fieldAddr 25 t2 3 [if 19=true]
        refine WL.goff rfl rfl (by decide) ?_   -- t26 := load 23 t25 [if 19=true]
        refine WL.goff rfl rfl (by decide) ?_   -- t27 := fieldAddr 25 t3 3 [if 19=true]
        refine WL.goff rfl rfl (by decide) ?_   -- t28 := load 23 t27 [if 19=true]
        refine WL.goff rfl rfl (by decide) ?_   -- t29 := call F33(t26, t28) : 23,23 [if 19=true]
        refine WL.val (Y.pick rfl rfl) (by decide) ?_   -- t30 := pick t24 t29 c(false)
        refine WL.val (Y.assign rfl) (by decide) ?_   -- t4 := assign t30
        refine WL.nil ?_
        refine hK2 _ _ ?_; try clear hK2 K2
        refine CW.ret ⟨_, rfl, ?_⟩
        exact ⟨by simp_all [sameB], ((hx1.thenExt hx2).thenExt hx3)⟩
    · -- t17 = F
      refine WL.goff rfl rfl (by decide) ?_   -- t18 := fieldAddr 25 t2 2 [if 12=true]
      refine WL.goff rfl rfl (by decide) ?_   -- t19 := load 9 t18 [if 12=true]
      refine WL.goff rfl rfl (by decide) ?_   -- t20 := fieldAddr 25 t3 2 [if 12=true]
      refine WL.goff rfl rfl (by decide) ?_   -- t21 := load 9 t20 [if 12=true]
      refine WL.goff rfl rfl (by decide) ?_   -- t22 := binOp eql 9 t19 t21 9 [if 12=true]
      refine WL.val (Y.pick rfl rfl) (by decide) ?_   -- t23 := pick t17 t22 c(false)
      refine WL.val (Y.move rfl) (by decide) ?_   -- t24 := move t23
      refine WL.goff rfl rfl (by decide) ?_   -- t25 := fieldAddr 25 t2 3 [if 19=true]
      refine WL.goff rfl rfl (by decide) ?_   -- t26 := load 23 t25 [if 19=true]
      refine WL.goff rfl rfl (by decide) ?_   -- t27 := fieldAddr 25 t3 3 [if 19=true]
      refine WL.goff rfl rfl (by decide) ?_   -- t28 := load 23 t27 [if 19=true]
      refine WL.goff rfl rfl (by decide) ?_   -- t29 := call F33(t26, t28) : 23,23 [if 19=true]
      refine WL.val (Y.pick rfl rfl) (by decide) ?_   -- t30 := pick t24 t29 c(false)
      refine WL.val (Y.assign rfl) (by decide) ?_   -- t4 := assign t30
      refine WL.nil ?_
      refine hK2 _ _ ?_; try clear hK2 K2
      refine CW.ret ⟨_, rfl, ?_⟩
      exact ⟨by simp_all [sameB], ((hx1.thenExt hx2).thenExt hx3)⟩
  · -- t10 = F
    refine WL.goff rfl rfl (by decide) ?_   -- t11 := fieldAddr 25 t2 1 [if 5=true]
    refine WL.goff rfl rfl (by decide) ?_   -- t12 := load 9 t11 [if 5=true]
    refine WL.goff rfl rfl (by decide) ?_   -- t13 := fieldAddr 25 t3 1 [if 5=true]
    refine WL.goff rfl rfl (by decide) ?_   -- t14 := load 9 t13 [if 5=true]
    refine WL.goff rfl rfl (by decide) ?_   -- t15 := binOp eql 9 t12 t14 9 [if 5=true]
    refine WL.val (Y.pick rfl rfl) (by decide) ?_   -- t16 := pick t10 t15 c(false)
    refine WL.val (Y.move rfl) (by decide) ?_   -- t17 := move t16
    refine WL.goff rfl rfl (by decide) ?_   -- t18 := fieldAddr 25 t2 2 [if 12=true]
    refine WL.goff rfl rfl (by decide) ?_   -- t19 := load 9 t18 [if 12=true]
    refine WL.goff rfl rfl (by decide) ?_   -- t20 := fieldAddr 25 t3 2 [if 12=true]
    refine WL.goff rfl rfl (by decide) ?_   -- t21 := load 9 t20 [if 12=true]
    refine WL.goff rfl rfl (by decide) ?_   -- t22 := binOp eql 9 t19 t21 9 [if 12=true]
    refine WL.val (Y.pick rfl rfl) (by decide) ?_   -- t23 := pick t17 t22 c(false)
    refine WL.val (Y.move rfl) (by decide) ?_   -- t24 := move t23
    refine WL.goff rfl rfl (by decide) ?_   -- t25 := fieldAddr 25 t2 3 [if 19=true]
    refine WL.goff rfl rfl (by decide) ?_   -- t26 := load 23 t25 [if 19=true]
    refine WL.goff rfl rfl (by decide) ?_   -- t27 := fieldAddr 25 t3 3 [if 19=true]
    refine WL.goff rfl rfl (by decide) ?_   -- t28 := load 23 t27 [if 19=true]
    refine WL.goff rfl rfl (by decide) ?_   -- t29 := call F33(t26, t28) : 23,23 [if 19=true]
    refine WL.val (Y.pick rfl rfl) (by decide) ?_   -- t30 := pick t24 t29 c(false)
    refine WL.val (Y.assign rfl) (by decide) ?_   -- t4 := assign t30
    refine WL.nil ?_
    refine hK2 _ _ ?_; try clear hK2 K2
    refine CW.ret ⟨_, rfl, ?_⟩
    exact ⟨by simp_all [sameB], ((hx1.thenExt hx2).thenExt hx3)⟩
theorem rSame_any (u v : Value) (a b : ComD) (w : World) (hu : Com w u a) (hv : Com w v b) : Calls Tryd.prog 10 #[u, v] w (Ret fun r w' => r = .bool (sameB a b) ∧ Ext w w') := by
  obtain ⟨_, _, rfl, hpa, hoa, haa, hna⟩ := hu
  obtain ⟨_, _, rfl, hpb, hob, hab, hnb⟩ := hv
  have hpa0 := hpa
  have hpb0 := hpb
  obtain ⟨Ap, mp, cp, rfl, hmp, hmcp, hcmp, hxp⟩ := hpa
  obtain ⟨Ao, mo, co, rfl, hmo, hmco, hcmo, hxo⟩ := hoa
  obtain ⟨Bp, np, dp, rfl, hnp, hndp, hdmp, hyp⟩ := hpb
  obtain ⟨Bo, no, do_, rfl, hno, hndo, hdmo, hyo⟩ := hob
  unfold maxLen at hcmp hcmo hdmp hdmo
  refine calls_of_CW 53 [4] [(0, .agg (comC (.slice Ap mp cp) a.author a.note (.slice Ao mo co)).toArray), (1, .agg (comC (.slice Bp np dp) b.author b.note (.slice Bo no do_)).toArray)] Tryd.func10 rfl rfl rfl (by simp) args2 ?_
  refine CW.seq fun K1 hK1 => ?_
  refine CW.region ?_   -- region 0
  refine WL.box rfl rfl (by decide) fun g2 w1 hx1 hg2 hB2 => ?_   -- t2 := box 25 t0
  have hM2 := hB2.mem
  refine WL.box rfl rfl (by decide) fun g3 w2 hx2 hg3 hB3 => ?_   -- t3 := box 25 t1
  have hM3 := hB3.mem; have hM2 := hM2.ext hx2
  refine WL.val (Y.assign rfl) (by decide) ?_   -- t4 := assign c(false)
  refine WL.nil ?_
  refine hK1 _ _ ?_; try clear hK1 K1
  refine CW.seq fun K2 hK2 => ?_
  refine CW.seq_testE 34 (¬ (a.parents = b.parents ∧ (a.author.toList == b.author.toList) = true ∧ (a.note.toList == b.note.toList) = true ∧ mo = no)) ?_ ?_
  · refine CW.region ?_
    refine WL.val (Y.fieldAddr fo_apiCommit0 rfl) (by decide) ?_   -- t6 := fieldAddr 25 t2 0
    refine WL.val (Y.load1 Tryd.underlying22 rfl hM2.com0 rfl) (by decide) ?_   -- t7 := load 22 t6
    refine WL.val (Y.fieldAddr fo_apiCommit0 rfl) (by decide) ?_   -- t8 := fieldAddr 25 t3 0
    refine WL.val (Y.load1 Tryd.underlying22 rfl hM3.com0 rfl) (by decide) ?_   -- t9 := load 22 t8
    refine WL.call Tryd.func25 rfl rfl rfl ((rSameD_any _ _ _ _ _ (hpa0.ext (hx1.thenExt hx2)) (hpb0.ext (hx1.thenExt hx2)))) (by simp) ?_; rintro v w3 ⟨rfl, hx3⟩; have hM2 := hM2.ext hx3; have hM3 := hM3.ext hx3   -- t10 := call F25(t7, t9) : 22,22
    refine WL.val (Y.not rfl) (by decide) ?_   -- t11 := unOp not 4 t10
    refine WL.val (Y.move rfl) (by decide) ?_   -- t12 := move t11
    first | refine WL.casesD (d := 12) rfl (fun hg12 => ?_) (fun hg12 => ?_) | refine WL.casesND (d := 12) rfl (fun hg12 => ?_) (fun hg12 => ?_) | refine WL.cases (d := 12) rfl (fun hg12 => ?_) (fun hg12 => ?_)
    · -- t12 = T
      refine WL.goff rfl rfl (by decide) ?_   -- t13 := fieldAddr 25 t2 1 [if 6=false]
      refine WL.goff rfl rfl (by decide) ?_   -- t14 := load 9 t13 [if 6=false]
      refine WL.goff rfl rfl (by decide) ?_   -- t15 := fieldAddr 25 t3 1 [if 6=false]
      refine WL.goff rfl rfl (by decide) ?_   -- t16 := load 9 t15 [if 6=false]
      refine WL.goff rfl rfl (by decide) ?_   -- t17 := binOp neq 9 t14 t16 9 [if 6=false]
      refine WL.val (Y.pick rfl rfl) (by decide) ?_   -- t18 := pick t12 c(true) t17
      refine WL.val (Y.move rfl) (by decide) ?_   -- t19 := move t18
      refine WL.goff rfl rfl (by decide) ?_   -- t20 := fieldAddr 25 t2 2 [if 13=false]
      refine WL.goff rfl rfl (by decide) ?_   -- t21 := load 9 t20 [if 13=false]
      refine WL.goff rfl rfl (by decide) ?_   -- t22 := fieldAddr 25 t3 2 [if 13=false]
      refine WL.goff rfl rfl (by decide) ?_   -- t23 := load 9 t22 [if 13=false]
      refine WL.goff rfl rfl (by decide) ?_   -- t24 := binOp neq 9 t21 t23 9 [if 13=false]
      refine WL.val (Y.pick rfl rfl) (by decide) ?_   -- t25 := pick t19 c(true) t24
      refine WL.val (Y.move rfl) (by decide) ?_   -- t26 := move t25
      refine WL.goff rfl rfl (by decide) ?_   -- t27 := fieldAddr 25 t2 3 [if 20=false]
      refine WL.goff rfl rfl (by decide) ?_   -- t28 := load 23 t27 [if 20=false]
      refine WL.goff rfl rfl (by decide) ?_   -- t29 := call len(t28) : 23 [if 20=false]
      refine WL.goff rfl rfl (by decide) ?_   -- t30 := fieldAddr 25 t3 3 [if 20=false]
      refine WL.goff rfl rfl (by decide) ?_   -- t31 := load 23 t30 [if 20=false]
      refine WL.goff rfl rfl (by decide) ?_   -- t32 := call len(t31) : 23 [if 20=false]
      refine WL.goff rfl rfl (by decide) ?_   -- t33 := binOp neq 3 t29 t32 3 [if 20=false]
      refine WL.val (Y.pick rfl rfl) (by decide) ?_   -- t34 := pick t26 c(true) t33
      refine WL.nil ⟨⟨_, rfl, ?_⟩, hx3, (by repeat (first | exact Fr.le.refl | refine Fr.le.push rfl ?_))⟩
      first | (simp only [*, Bool.not_eq_true', decide_eq_false_iff_not, decide_eq_true_eq, not_true_eq_false, not_false_eq_true, true_and, false_and, and_true, and_false, false_or, or_false, true_or, or_true, iff_true, true_iff, iff_false, false_iff]; done) | (simp_all; done) | (refine congrArg Value.bool (Bool.eq_iff_iff.2 ?_); simp_all; done) | (simp_all; omega)
    · -- t12 = F
      refine WL.gval rfl rfl (Y.fieldAddr fo_apiCommit1 rfl) (by decide) ?_   -- t13 := fieldAddr 25 t2 1 [if 6=false]
      refine WL.gval rfl rfl (Y.load1 Tryd.underlying9 rfl hM2.com1 rfl) (by decide) ?_   -- t14 := load 9 t13 [if 6=false]
      refine WL.gval rfl rfl (Y.fieldAddr fo_apiCommit1 rfl) (by decide) ?_   -- t15 := fieldAddr 25 t3 1 [if 6=false]
      refine WL.gval rfl rfl (Y.load1 Tryd.underlying9 rfl hM3.com1 rfl) (by decide) ?_   -- t16 := load 9 t15 [if 6=false]
      refine WL.gval rfl rfl (Y.neq_string rfl rfl) (by decide) ?_   -- t17 := binOp neq 9 t14 t16 9 [if 6=false]
      refine WL.val (Y.pick rfl rfl) (by decide) ?_   -- t18 := pick t12 c(true) t17
      refine WL.val (Y.move rfl) (by decide) ?_   -- t19 := move t18
      first | refine WL.casesD (d := 19) rfl (fun hg19 => ?_) (fun hg19 => ?_) | refine WL.casesND (d := 19) rfl (fun hg19 => ?_) (fun hg19 => ?_) | refine WL.cases (d := 19) rfl (fun hg19 => ?_) (fun hg19 => ?_)
      · -- t19 = T
        refine WL.goff rfl rfl (by decide) ?_   -- t20 := fieldAddr 25 t2 2 [if 13=false]
        refine WL.goff rfl rfl (by decide) ?_   -- t21 := load 9 t20 [if 13=false]
        refine WL.goff rfl rfl (by decide) ?_   -- t22 := fieldAddr 25 t3 2 [if 13=false]
        refine WL.goff rfl rfl (by decide) ?_   -- t23 := load 9 t22 [if 13=false]
        refine WL.goff rfl rfl (by decide) ?_   -- t24 := binOp neq 9 t21 t23 9 [if 13=false]
        refine WL.val (Y.pick rfl rfl) (by decide) ?_   -- t25 := pick t19 c(true) t24
        refine WL.val (Y.move rfl) (by decide) ?_   -- t26 := move t25
        refine WL.goff rfl rfl (by decide) ?_   -- t27 := fieldAddr 25 t2 3 [if 20=false]
        refine WL.goff rfl rfl (by decide) ?_   -- t28 := load 23 t27 [if 20=false]
        refine WL.goff rfl rfl (by decide) ?_   -- t29 := call len(t28) : 23 [if 20=false]
        refine WL.goff rfl rfl (by decide) ?_   -- t30 := fieldAddr 25 t3 3 [if 20=false]
        refine WL.goff rfl rfl (by decide) ?_   -- t31 := load 23 t30 [if 20=false]
        refine WL.goff rfl rfl (by decide) ?_   -- t32 := call len(t31) : 23 [if 20=false]
        refine WL.goff rfl rfl (by decide) ?_   -- t33 := binOp neq 3 t29 t32 3 [if 20=false]
        refine WL.val (Y.pick rfl rfl) (by decide) ?_   -- t34 := pick t26 c(true) t33
        refine WL.nil ⟨⟨_, rfl, ?_⟩, hx3, (by repeat (first | exact Fr.le.refl | refine Fr.le.push rfl ?_))⟩
        first | (simp only [*, Bool.not_eq_true', decide_eq_false_iff_not, decide_eq_true_eq, not_true_eq_false, not_false_eq_true, true_and, false_and, and_true, and_false, false_or, or_false, true_or, or_true, iff_true, true_iff, iff_false, false_iff]; done) | (simp_all; done) | (refine congrArg Value.bool (Bool.eq_iff_iff.2 ?_); simp_all; done) | (simp_all; omega)
      · -- t19 = F
        refine WL.gval rfl rfl (Y.fieldAddr fo_apiCommit2 rfl) (by decide) ?_   -- t20 := fieldAddr 25 t2 2 [if 13=false]
        refine WL.gval rfl rfl (Y.load1 Tryd.underlying9 rfl hM2.com2 rfl) (by decide) ?_   -- t21 := load 9 t20 [if 13=false]
        refine WL.gval rfl rfl (Y.fieldAddr fo_apiCommit2 rfl) (by decide) ?_   -- t22 := fieldAddr 25 t3 2 [if 13=false]
        refine WL.gval rfl rfl (Y.load1 Tryd.underlying9 rfl hM3.com2 rfl) (by decide) ?_   -- t23 := load 9 t22 [if 13=false]
        refine WL.gval rfl rfl (Y.neq_string rfl rfl) (by decide) ?_   -- t24 := binOp neq 9 t21 t23 9 [if 13=false]
        refine WL.val (Y.pick rfl rfl) (by decide) ?_   -- t25 := pick t19 c(true) t24
        refine WL.val (Y.move rfl) (by decide) ?_   -- t26 := move t25
        first | refine WL.casesD (d := 26) rfl (fun hg26 => ?_) (fun hg26 => ?_) | refine WL.casesND (d := 26) rfl (fun hg26 => ?_) (fun hg26 => ?_) | refine WL.cases (d := 26) rfl (fun hg26 => ?_) (fun hg26 => ?_)
        · -- t26 = T
          refine WL.goff rfl rfl (by decide) ?_   -- t27 := fieldAddr 25 t2 3 [if 20=false]
          refine WL.goff rfl rfl (by decide) ?_   -- t28 := load 23 t27 [if 20=false]
          refine WL.goff rfl rfl (by decide) ?_   -- t29 := call len(t28) : 23 [if 20=false]
          refine WL.goff rfl rfl (by decide) ?_   -- t30 := fieldAddr 25 t3 3 [if 20=false]
          refine WL.goff rfl rfl (by decide) ?_   -- t31 := load 23 t30 [if 20=false]
          refine WL.goff rfl rfl (by decide) ?_   -- t32 := call len(t31) : 23 [if 20=false]
          refine WL.goff rfl rfl (by decide) ?_   -- t33 := binOp neq 3 t29 t32 3 [if 20=false]
          refine WL.val (Y.pick rfl rfl) (by decide) ?_   -- t34 := pick t26 c(true) t33
          refine WL.nil ⟨⟨_, rfl, ?_⟩, hx3, (by repeat (first | exact Fr.le.refl | refine Fr.le.push rfl ?_))⟩
          first | (simp only [*, Bool.not_eq_true', decide_eq_false_iff_not, decide_eq_true_eq, not_true_eq_false, not_false_eq_true, true_and, false_and, and_true, and_false, false_or, or_false, true_or, or_true, iff_true, true_iff, iff_false, false_iff]; done) | (simp_all; done) | (refine congrArg Value.bool (Bool.eq_iff_iff.2 ?_); simp_all; done) | (simp_all; omega)
        · -- t26 = F
          refine WL.gval rfl rfl (Y.fieldAddr fo_apiCommit3 rfl) (by decide) ?_   -- t27 := fieldAddr 25 t2 3 [if 20=false]
          refine WL.gval rfl rfl (Y.load1 Tryd.underlying23 rfl hM2.com3 rfl) (by decide) ?_   -- t28 := load 23 t27 [if 20=false]
          refine WL.gval rfl rfl (Y.len_slice Tryd.underlying23 rfl) (by decide) ?_   -- t29 := call len(t28) : 23 [if 20=false]
          refine WL.gval rfl rfl (Y.fieldAddr fo_apiCommit3 rfl) (by decide) ?_   -- t30 := fieldAddr 25 t3 3 [if 20=false]
          refine WL.gval rfl rfl (Y.load1 Tryd.underlying23 rfl hM3.com3 rfl) (by decide) ?_   -- t31 := load 23 t30 [if 20=false]
          refine WL.gval rfl rfl (Y.len_slice Tryd.underlying23 rfl) (by decide) ?_   -- t32 := call len(t31) : 23 [if 20=false]
          refine WL.gval rfl rfl (Y.neq rfl rfl) (by decide) ?_   -- t33 := binOp neq 3 t29 t32 3 [if 20=false]
          refine WL.val (Y.pick rfl rfl) (by decide) ?_   -- t34 := pick t26 c(true) t33
          refine WL.nil ⟨⟨_, rfl, ?_⟩, hx3, (by repeat (first | exact Fr.le.refl | refine Fr.le.push rfl ?_))⟩
          first | (simp only [*, Bool.not_eq_true', decide_eq_false_iff_not, decide_eq_true_eq, not_true_eq_false, not_false_eq_true, true_and, false_and, and_true, and_false, false_or, or_false, true_or, or_true, iff_true, true_iff, iff_false, false_iff]; done) | (simp_all; done) | (refine congrArg Value.bool (Bool.eq_iff_iff.2 ?_); simp_all; done) | (simp_all; omega)
  intro w4 hx4; have hM2 := hM2.ext hx4; have hM3 := hM3.ext hx4
  first | refine CW.condD rfl (fun ht3 => ?_) (fun ht3 => ?_) | refine CW.condND rfl (fun ht3 => ?_) (fun ht3 => ?_) | refine CW.condN rfl (fun ht3 => ?_) (fun ht3 => ?_) | refine CW.cond rfl (fun ht3 => ?_) (fun ht3 => ?_)
  · -- then
    refine CW.seq fun K4 hK4 => ?_
    refine CW.region ?_   -- region 2
    refine WL.val (Y.assign rfl) (by decide) ?_   -- t4 := assign c(false)
    refine WL.nil ?_
    refine hK4 _ _ ?_; try clear hK4 K4
    refine CW.ret ⟨_, rfl, ?_⟩
    refine ⟨?_, ((hx1.thenExt hx2).thenExt hx4)⟩
    have hq := ht3
    unfold sameB
    by_cases e1 : a.parents = b.parents <;> by_cases e2 : (a.author.toList == b.author.toList) = true <;> by_cases e3 : (a.note.toList == b.note.toList) = true <;> by_cases e4 : a.ops = b.ops <;> simp_all
  -- else
  refine CW.skip ?_
  refine hK2 _ _ ?_; try clear hK2 K2
  refine CW.seq fun K5 hK5 => ?_
  refine CW.seq fun K6 hK6 => ?_
  refine CW.region ?_   -- region 3
  refine WL.val (Y.assign rfl) (by decide) ?_   -- t5 := assign c(0:i64)
  refine WL.nil ?_
  refine hK6 _ _ ?_; try clear hK6 K6
  refine CW.block ?_   -- block 0
  refine CW.loop (X := Nat) (fun x => [(2, .pointer (some ⟨g2, 0, none⟩)), (3, .pointer (some ⟨g3, 0, none⟩)), (5, .int .i64 (x : Int))]) (fun x w0 => x ≤ mo ∧ a.ops.take x = b.ops.take x ∧ Ext w w0 ∧ Mem w0 ⟨g2, 0, none⟩ (comC (.slice Ap mp cp) a.author a.note (.slice Ao mo co)) ∧ Mem w0 ⟨g3, 0, none⟩ (comC (.slice Bp np dp) b.author b.note (.slice Bo no do_))) (fun x => mo - x) 0 (by repeat (first | exact Fr.le.nil | refine Fr.le.cons rfl ?_)) ⟨Nat.zero_le _, rfl, ((hx1.thenExt hx2).thenExt hx4), hM2, hM3⟩ ?_
  intro x w5 hl5
  clear hM2 hM3
  obtain ⟨hi, htk, hL5, hM2, hM3⟩ := hl5
  refine CW.seq fun K7 hK7 => ?_
  refine CW.seq fun K8 hK8 => ?_
  refine CW.region ?_   -- region 4
  refine WL.val (Y.move rfl) (by decide) ?_   -- t35 := move t5
  refine WL.val (Y.fieldAddr fo_apiCommit3 rfl) (by decide) ?_   -- t36 := fieldAddr 25 t2 3
  refine WL.val (Y.load1 Tryd.underlying23 rfl hM2.com3 rfl) (by decide) ?_   -- t37 := load 23 t36
  refine WL.val (Y.len_slice Tryd.underlying23 rfl) (by decide) ?_   -- t38 := call len(t37) : 23
  refine WL.val (Y.lss rfl rfl) (by decide) ?_   -- t39 := binOp lss 3 t35 t38 3
  refine WL.nil ?_
  refine hK8 _ _ ?_; try clear hK8 K8
  first | refine CW.condD rfl (fun ht9 => ?_) (fun ht9 => ?_) | refine CW.condND rfl (fun ht9 => ?_) (fun ht9 => ?_) | refine CW.condN rfl (fun ht9 => ?_) (fun ht9 => ?_) | refine CW.cond rfl (fun ht9 => ?_) (fun ht9 => ?_)
  · -- then
    refine CW.skip ?_
    refine hK7 _ _ ?_; try clear hK7 K7
    refine CW.seq fun K10 hK10 => ?_
    refine CW.block ?_   -- block 1
    refine CW.seq fun K11 hK11 => ?_
    obtain ⟨y, hy⟩ : ∃ y, a.ops[x]? = some y := ⟨_, List.getElem?_eq_getElem (by omega)⟩
    obtain ⟨z, hz⟩ : ∃ z, b.ops[x]? = some z := ⟨_, List.getElem?_eq_getElem (by omega)⟩
    obtain ⟨aa, rfl, hma⟩ := hxo _ y hy
    obtain ⟨ab, rfl, hmb⟩ := hyo _ z hz
    refine CW.quiet (fun wq => Ext w5 wq) (by kernel_rfl) (by kernel_rfl) Chg.drew ?_
    refine QL.val (fun wq hq => Y.fieldAddr fo_apiCommit3 rfl) (by decide) ?_   -- t42 := fieldAddr 25 t2 3
    refine QL.val (fun wq hq => Y.load1 Tryd.underlying23 rfl (hM2.ext hq).com3 rfl) (by decide) ?_   -- t43 := load 23 t42
    refine QL.val (fun wq hq => Y.move rfl) (by decide) ?_   -- t44 := move t5
    refine QL.val (fun wq hq => Y.indexAddrN Tryd.underlying23 rfl rfl sz0_apiOp (by omega)) (by decide) ?_   -- t45 := indexAddr 23 t43 t44
    refine QL.val (fun wq hq => Y.load Tryd.underlying51 rfl ((hma.ext hL5).ext hq) (sz_apiOp _) rfl) (by decide) ?_   -- t46 := load 51 t45
    refine QL.val (fun wq hq => Y.fieldAddr fo_apiCommit3 rfl) (by decide) ?_   -- t47 := fieldAddr 25 t3 3
    refine QL.val (fun wq hq => Y.load1 Tryd.underlying23 rfl (hM3.ext hq).com3 rfl) (by decide) ?_   -- t48 := load 23 t47
    refine QL.val (fun wq hq => Y.move rfl) (by decide) ?_   -- t49 := move t5
    refine QL.val (fun wq hq => Y.indexAddrN Tryd.underlying23 rfl rfl sz0_apiOp (by omega)) (by decide) ?_   -- t50 := indexAddr 23 t48 t49
    refine QL.val (fun wq hq => Y.load Tryd.underlying51 rfl ((hmb.ext hL5).ext hq) (sz_apiOp _) rfl) (by decide) ?_   -- t51 := load 51 t50
    refine QL.val (fun wq hq => Y.neq_apiOp rfl rfl) (by decide) ?_   -- t52 := binOp neq 51 t46 t51 51
    refine QL.nil fun w6 hx6 => ?_
    have hM2 := hM2.ext hx6
    have hM3 := hM3.ext hx6
    refine hK11 _ _ ?_; try clear hK11 K11
    first | refine CW.condD rfl (fun ht12 => ?_) (fun ht12 => ?_) | refine CW.condND rfl (fun ht12 => ?_) (fun ht12 => ?_) | refine CW.condN rfl (fun ht12 => ?_) (fun ht12 => ?_) | refine CW.cond rfl (fun ht12 => ?_) (fun ht12 => ?_)
    · -- then
      refine CW.seq fun K13 hK13 => ?_
      refine CW.region ?_   -- region 7
      refine WL.val (Y.assign rfl) (by decide) ?_   -- t4 := assign c(false)
      refine WL.nil ?_
      refine hK13 _ _ ?_; try clear hK13 K13
      refine CW.ret ⟨_, rfl, ?_⟩
      exact ⟨by have := list_part hy hz (by assumption); unfold sameB; rw [decide_eq_false this, Bool.and_false], (hL5.thenExt hx6)⟩
    -- else
    refine CW.skip ?_
    refine hK10 _ _ ?_; try clear hK10 K10
    refine CW.region ?_   -- region 5
    refine WL.val (Y.move rfl) (by decide) ?_   -- t40 := move t5
    refine WL.val (Y.add rfl rfl ⟨by omega, by omega⟩) (by decide) ?_   -- t41 := binOp add 3 t40 c(1:i64) 3
    refine WL.val (Y.assign rfl) (by decide) ?_   -- t5 := assign t41
    refine WL.nil ?_
    refine ⟨x + 1, by omega, (by repeat (first | exact Fr.le.nil | refine Fr.le.cons rfl ?_)), by omega, take_more htk hy hz (by assumption), (hL5.thenExt hx6), hM2, hM3⟩
  -- else
  refine CW.exit ?_   -- exit 0
  refine hK5 _ _ ?_; try clear hK5 K5
  refine CW.seq fun K14 hK14 => ?_
  refine CW.region ?_   -- region 8
  refine WL.val (Y.assign rfl) (by decide) ?_   -- t4 := assign c(true)
  refine WL.nil ?_
  refine hK14 _ _ ?_; try clear hK14 K14
  refine CW.ret ⟨_, rfl, ?_⟩
  refine ⟨?_, hL5⟩
  have hops : a.ops = b.ops := list_whole (by omega) (by omega) htk
  unfold sameB
  simp_all
end Go.Proofs.YtfbagecopapfhaaDoor
