/- Whether two commits are the same: slices.Equal at digests and operations, commit.Same and the reference's, walked. No condition. -/
import Derived.Test.YtecolkngbcgmcaaEn
set_option linter.unusedSimpArgs false
set_option linter.unusedVariables false
namespace Go.Proofs.Ytecolkngbcgmcaa
open Go.RowKit Go.Fw Go.Pl
/-- Whether two commits are the same. -/
def sameB (a b : ComD) : Bool := decide (a.parents = b.parents) && (a.author.toList == b.author.toList) && (a.note.toList == b.note.toList) && decide (a.ops = b.ops)
theorem list_part {α : Type} {xs ys : List α} {i : Nat} {a b : α} (ha : xs[i]? = some a) (hb : ys[i]? = some b) (h : ¬ a = b) : xs ≠ ys := by
  intro e; subst e; rw [ha] at hb; injection hb with hb; exact h hb
theorem list_whole {α : Type} {xs ys : List α} {i : Nat} (hl : xs.length = ys.length) (hi : xs.length ≤ i) (ht : xs.take i = ys.take i) : xs = ys := by
  rwa [List.take_of_length_le hi, List.take_of_length_le (by omega)] at ht
theorem take_more {α : Type} {xs ys : List α} {i : Nat} {a b : α} (ht : xs.take i = ys.take i) (ha : xs[i]? = some a) (hb : ys[i]? = some b) (h : a = b) : xs.take (i + 1) = ys.take (i + 1) := by
  rw [take_succ ha, take_succ hb, ht, h]

theorem rSameD_any (u v : Value) (xs ys : List Dig) (w : World) (hu : Sl w digC 32 u xs) (hv : Sl w digC 32 v ys) : Calls Try.prog 17 #[u, v] w (Ret fun r w' => r = .bool (decide (xs = ys)) ∧ Ext w w') := by
  obtain ⟨A, m, c, rfl, hm, hmc, hcm, hxs⟩ := hu
  obtain ⟨B, n, d, rfl, hn, hnd, hdm, hys⟩ := hv
  unfold maxLen at hcm hdm
  refine calls_of_CW 26 [4] [(0, .slice A m c), (1, .slice B n d)] Try.func17 rfl rfl rfl (by simp) args2 ?_
  refine CW.seq fun K1 hK1 => ?_
  refine CW.region ?_   -- region 0
  refine WL.val (Y.assign rfl) (by decide) ?_   -- t4 := assign c(false)
  refine WL.nil ?_
  refine hK1 _ _ ?_; try clear hK1 K1
  refine CW.seq fun K2 hK2 => ?_
  refine CW.seq fun K3 hK3 => ?_
  refine CW.region ?_   -- region 1
  refine WL.val (Y.move rfl) (by decide) ?_   -- t6 := move t0
  refine WL.val (Y.len_slice Try.underlying23 rfl) (by decide) ?_   -- t7 := call len(t6) : 23
  refine WL.val (Y.move rfl) (by decide) ?_   -- t8 := move t1
  refine WL.val (Y.len_slice Try.underlying23 rfl) (by decide) ?_   -- t9 := call len(t8) : 23
  refine WL.val (Y.neq rfl rfl) (by decide) ?_   -- t10 := binOp neq 3 t7 t9 3
  refine WL.nil ?_
  refine hK3 _ _ ?_; try clear hK3 K3
  first | refine CW.condD rfl (fun ht4 => ?_) (fun ht4 => ?_) | refine CW.condND rfl (fun ht4 => ?_) (fun ht4 => ?_) | refine CW.condN rfl (fun ht4 => ?_) (fun ht4 => ?_) | refine CW.cond rfl (fun ht4 => ?_) (fun ht4 => ?_)
  · -- then
    refine CW.seq fun K5 hK5 => ?_
    refine CW.region ?_   -- region 2
    refine WL.val (Y.assign rfl) (by decide) ?_   -- t4 := assign c(false)
    refine WL.nil ?_
    refine hK5 _ _ ?_; try clear hK5 K5
    refine CW.ret ⟨_, rfl, ?_⟩
    exact ⟨by rw [decide_eq_false (fun e => by subst e; omega)], Chg.refl⟩
  -- else
  refine CW.skip ?_
  refine hK2 _ _ ?_; try clear hK2 K2
  refine CW.seq fun K6 hK6 => ?_
  refine CW.seq fun K7 hK7 => ?_
  refine CW.region ?_   -- region 3
  refine WL.val (Y.assign rfl) (by decide) ?_   -- t5 := assign c(0:i64)
  refine WL.nil ?_
  refine hK7 _ _ ?_; try clear hK7 K7
  refine CW.block ?_   -- block 0
  refine CW.loop (X := Nat) (fun x => [(0, .slice A m c), (1, .slice B n d), (5, .int .i64 (x : Int))]) (fun x w0 => x ≤ m ∧ xs.take x = ys.take x ∧ Ext w w0) (fun x => m - x) 0 (by repeat (first | exact Fr.le.nil | refine Fr.le.cons rfl ?_)) ⟨Nat.zero_le _, rfl, Chg.refl⟩ ?_
  intro x w1 hl1
  obtain ⟨hi, htk, hL1⟩ := hl1
  refine CW.seq fun K8 hK8 => ?_
  refine CW.seq fun K9 hK9 => ?_
  refine CW.region ?_   -- region 4
  refine WL.val (Y.move rfl) (by decide) ?_   -- t11 := move t5
  refine WL.val (Y.move rfl) (by decide) ?_   -- t12 := move t0
  refine WL.val (Y.len_slice Try.underlying23 rfl) (by decide) ?_   -- t13 := call len(t12) : 23
  refine WL.val (Y.lss rfl rfl) (by decide) ?_   -- t14 := binOp lss 3 t11 t13 3
  refine WL.nil ?_
  refine hK9 _ _ ?_; try clear hK9 K9
  first | refine CW.condD rfl (fun ht10 => ?_) (fun ht10 => ?_) | refine CW.condND rfl (fun ht10 => ?_) (fun ht10 => ?_) | refine CW.condN rfl (fun ht10 => ?_) (fun ht10 => ?_) | refine CW.cond rfl (fun ht10 => ?_) (fun ht10 => ?_)
  · -- then
    refine CW.skip ?_
    refine hK8 _ _ ?_; try clear hK8 K8
    refine CW.seq fun K11 hK11 => ?_
    refine CW.block ?_   -- block 1
    refine CW.seq fun K12 hK12 => ?_
    obtain ⟨a, ha⟩ : ∃ a, xs[x]? = some a := ⟨_, List.getElem?_eq_getElem (by omega)⟩
    obtain ⟨b, hb⟩ : ∃ b, ys[x]? = some b := ⟨_, List.getElem?_eq_getElem (by omega)⟩
    obtain ⟨aa, rfl, hma⟩ := hxs _ a ha
    obtain ⟨ab, rfl, hmb⟩ := hys _ b hb
    refine CW.quiet (fun wq => Ext w1 wq) (by kernel_rfl) (by kernel_rfl) Chg.drew ?_
    refine QL.val (fun wq hq => Y.move rfl) (by decide) ?_   -- t17 := move t0
    refine QL.val (fun wq hq => Y.move rfl) (by decide) ?_   -- t18 := move t5
    refine QL.val (fun wq hq => Y.indexAddrN Try.underlying23 rfl rfl sz0_apiDigest (by omega)) (by decide) ?_   -- t19 := indexAddr 23 t17 t18
    refine QL.val (fun wq hq => Y.load Try.underlying45 rfl ((hma.ext hL1).ext hq) (sz_apiDigest _) rfl) (by decide) ?_   -- t20 := load 45 t19
    refine QL.val (fun wq hq => Y.move rfl) (by decide) ?_   -- t21 := move t1
    refine QL.val (fun wq hq => Y.move rfl) (by decide) ?_   -- t22 := move t5
    refine QL.val (fun wq hq => Y.indexAddrN Try.underlying23 rfl rfl sz0_apiDigest (by omega)) (by decide) ?_   -- t23 := indexAddr 23 t21 t22
    refine QL.val (fun wq hq => Y.load Try.underlying45 rfl ((hmb.ext hL1).ext hq) (sz_apiDigest _) rfl) (by decide) ?_   -- t24 := load 45 t23
    refine QL.val (fun wq hq => Y.neq_apiDigest rfl rfl) (by decide) ?_   -- t25 := binOp neq 45 t20 t24 45
    refine QL.nil fun w2 hx2 => ?_
    refine hK12 _ _ ?_; try clear hK12 K12
    first | refine CW.condD rfl (fun ht13 => ?_) (fun ht13 => ?_) | refine CW.condND rfl (fun ht13 => ?_) (fun ht13 => ?_) | refine CW.condN rfl (fun ht13 => ?_) (fun ht13 => ?_) | refine CW.cond rfl (fun ht13 => ?_) (fun ht13 => ?_)
    · -- then
      refine CW.seq fun K14 hK14 => ?_
      refine CW.region ?_   -- region 7
      refine WL.val (Y.assign rfl) (by decide) ?_   -- t4 := assign c(false)
      refine WL.nil ?_
      refine hK14 _ _ ?_; try clear hK14 K14
      refine CW.ret ⟨_, rfl, ?_⟩
      exact ⟨by rw [decide_eq_false (list_part ha hb (by assumption))], (hL1.thenExt hx2)⟩
    -- else
    refine CW.skip ?_
    refine hK11 _ _ ?_; try clear hK11 K11
    refine CW.region ?_   -- region 5
    refine WL.val (Y.move rfl) (by decide) ?_   -- t15 := move t5
    refine WL.val (Y.add rfl rfl ⟨by omega, by omega⟩) (by decide) ?_   -- t16 := binOp add 3 t15 c(1:i64) 3
    refine WL.val (Y.assign rfl) (by decide) ?_   -- t5 := assign t16
    refine WL.nil ?_
    refine ⟨x + 1, by omega, (by repeat (first | exact Fr.le.nil | refine Fr.le.cons rfl ?_)), by omega, take_more htk ha hb (by assumption), (hL1.thenExt hx2)⟩
  -- else
  refine CW.exit ?_   -- exit 0
  refine hK6 _ _ ?_; try clear hK6 K6
  refine CW.seq fun K15 hK15 => ?_
  refine CW.region ?_   -- region 8
  refine WL.val (Y.assign rfl) (by decide) ?_   -- t4 := assign c(true)
  refine WL.nil ?_
  refine hK15 _ _ ?_; try clear hK15 K15
  refine CW.ret ⟨_, rfl, ?_⟩
  exact ⟨by rw [decide_eq_true (list_whole (by omega) (by omega) htk)], hL1⟩
end Go.Proofs.Ytecolkngbcgmcaa
