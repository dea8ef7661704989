/- FugueAnyOrder, walked. No condition. -/
import Derived.Test.YtffkmlkdlhkkmaaEd
import Derived.Test.YtffkmlkdlhkkmaaEb
import Derived.Test.YtffkmlkdlhkkmaaQe
set_option linter.unusedSimpArgs false
set_option linter.unusedVariables false
namespace Go.Proofs.Ytffkmlkdlhkkmaa
open Go.RowKit Go.Fw Go.Fu Go.Pl
theorem ai_cm : AppInfo Try.prog TCm 33 56 := by
  have h : (Try.prog.info? TCm).map (fun i => (i.size, i.bytes, i.zero)) = some (33, 56, some (cmV CmV.zero)) := by kernel_rfl
  obtain ⟨i, hi, h⟩ := Option.map_eq_some_iff.1 h
  injection h with h1 h2
  injection h2 with h2 h3
  exact ⟨i, _, hi, h3, h1, by show (cmC _).toArray.size = 33; simp [cmC_length], h2, by decide, by decide⟩
theorem bs1_cm (x : CmV) (w : World) : (Instr.buildSlice 22 1 [(0, cmV x)].toArray).run Try.prog w = .ok (.slice (some ⟨w.heap.size, 0, none⟩) 1 1) (w.alloc (.cells (cmC x).toArray TCm)) := by
  obtain ⟨i, z, hi, hz, hk, _⟩ := ai_cm
  exact run_bs1 Try.underlying22 hi hz (by omega) (by omega) rfl (by rw [cmC_length, hk]) w
/-- How many operations there are. -/
def opsN (l : List CmV) : Nat := (l.map fun x => x.ops.length).sum
theorem opsN_succ {l : List CmV} {x : Nat} {y : CmV} (h : l[x]? = some y) : opsN (l.take (x + 1)) = opsN (l.take x) + y.ops.length := by
  rw [opsN, Go.Pl.take_succ h]; simp [opsN]
theorem opsN_le {B : Nat} : ∀ {l : List CmV}, (∀ y ∈ l, y.ops.length ≤ B) → opsN l ≤ l.length * B
  | [], _ => Nat.zero_le _
  | y :: r, h => by
    have h1 := opsN_le (l := r) fun z hz => h z (by simp [hz])
    have h2 := h y (by simp)
    show y.ops.length + opsN r ≤ (r.length + 1) * B
    rw [Nat.succ_mul]; omega
theorem ins_ops (l : List CmV) : ((comsL l).map fun c => insN c.2).sum ≤ opsN l := by
  induction l with
  | nil => exact Nat.le_refl _
  | cons y r ih =>
    have h1 : insN y.ops ≤ y.ops.length := List.countP_le_length
    show insN y.ops + ((comsL r).map fun c => insN c.2).sum ≤ y.ops.length + opsN r
    omega
theorem ids_coms (l : List CmV) : (comsL l).map (·.1) = l.map CmV.id := by rw [List.map_map]; rfl

set_option maxRecDepth 100000 in
set_option maxHeartbeats 4000000 in
theorem anyOrder_any (u : Value) (l : List CmV) (bi : Int) (w : World) (hl : Cms w u l) : Calls Try.prog 6 #[u, .int .i64 bi] w (Ret fun v w' => v = .bool true ∧ Ext w w') := by
  obtain ⟨A, m, c, rfl, hm, hmc, hcm, _⟩ := _root_.id hl.sl
  unfold maxLen at hcm
  refine calls_of_CW 140 [4] [(0, .slice A m c), (1, .int .i64 bi)] Try.func6 rfl rfl rfl (by simp) args2 ?_
  have hE : Ext w w := Chg.refl
  refine CW.seq fun K1 hK1 => ?_
  refine CW.region ?_   -- region 0
  refine WL.val (Y.assign rfl) (by decide) ?_   -- t4 := assign c(false)
  refine WL.nil ?_
  refine hK1 _ _ ?_; try clear hK1 K1
  refine CW.seq fun K2 hK2 => ?_
  refine CW.seq_testE 23 ((40 : Int) < (m : Int)) ?_ ?_
  · refine CW.region ?_
    refine WL.val (Y.move rfl) (by decide) ?_   -- t17 := move t0
    refine WL.val (Y.len_slice Try.underlying22 rfl) (by decide) ?_   -- t18 := call len(t17) : 22
    refine WL.val (Y.gtr rfl rfl) (by decide) ?_   -- t19 := binOp gtr 3 t18 c(40:i64) 3
    refine WL.val (Y.move rfl) (by decide) ?_   -- t20 := move t19
    first | refine WL.casesD (d := 20) rfl (fun hg20 => ?_) (fun hg20 => ?_) | refine WL.casesND (d := 20) rfl (fun hg20 => ?_) (fun hg20 => ?_) | refine WL.cases (d := 20) rfl (fun hg20 => ?_) (fun hg20 => ?_)
    · -- t20 = T
      refine WL.goff rfl rfl (by decide) ?_   -- t21 := call F12() :  [if 3=false]
      refine WL.goff rfl rfl (by decide) ?_   -- t22 := unOp not 4 t21 [if 3=false]
      refine WL.val (Y.pick rfl rfl) (by decide) ?_   -- t23 := pick t20 c(true) t22
      refine WL.nil ⟨⟨_, rfl, ?_⟩, Chg.refl, (by repeat (first | exact Fr.le.refl | refine Fr.le.push rfl ?_))⟩
      first | (simp only [*, Int.natCast_inj, Bool.not_eq_true', decide_eq_false_iff_not, decide_eq_true_eq, not_true_eq_false, not_false_eq_true, true_and, false_and, and_true, and_false, false_or, or_false, true_or, or_true, iff_true, true_iff, iff_false, false_iff]; done) | (simp_all; done) | (refine congrArg Value.bool (Bool.eq_iff_iff.2 ?_); simp_all; done) | (simp_all; omega)
    · -- t20 = F
      refine WL.gcall rfl rfl Try.func12 rfl rfl rfl (alive_any _) (by decide) ?_; rintro v w1 ⟨rfl, hx1⟩; have hz1 := hx1.size; have hE := hE.thenExt hx1   -- t21 := call F12() :  [if 3=false]
      refine WL.gval rfl rfl (Y.not rfl) (by decide) ?_   -- t22 := unOp not 4 t21 [if 3=false]
      refine WL.val (Y.pick rfl rfl) (by decide) ?_   -- t23 := pick t20 c(true) t22
      refine WL.nil ⟨⟨_, rfl, ?_⟩, hx1, (by repeat (first | exact Fr.le.refl | refine Fr.le.push rfl ?_))⟩
      first | (simp only [*, Int.natCast_inj, Bool.not_eq_true', decide_eq_false_iff_not, decide_eq_true_eq, not_true_eq_false, not_false_eq_true, true_and, false_and, and_true, and_false, false_or, or_false, true_or, or_true, iff_true, true_iff, iff_false, false_iff]; done) | (simp_all; done) | (refine congrArg Value.bool (Bool.eq_iff_iff.2 ?_); simp_all; done) | (simp_all; omega)
  intro w2 hx2; have hz2 := hx2.size; have hE := hE.thenExt hx2
  first | refine CW.condD rfl (fun ht3 => ?_) (fun ht3 => ?_) | refine CW.condND rfl (fun ht3 => ?_) (fun ht3 => ?_) | refine CW.condN rfl (fun ht3 => ?_) (fun ht3 => ?_) | refine CW.cond rfl (fun ht3 => ?_) (fun ht3 => ?_)
  · -- then
    refine CW.seq fun K4 hK4 => ?_
    refine CW.region ?_   -- region 2
    refine WL.call Try.func12 rfl rfl rfl (alive_any _) (by simp) ?_; rintro v w3 ⟨rfl, hx3⟩; have hz3 := hx3.size; have hE := hE.thenExt hx3   -- t24 := call F12() : 
    refine WL.val (Y.assign rfl) (by decide) ?_   -- t4 := assign t24
    refine WL.nil ?_
    refine hK4 _ _ ?_; try clear hK4 K4
    refine CW.ret ⟨_, rfl, ?_⟩
    exact ⟨rfl, hE⟩
  -- else
  refine CW.skip ?_
  refine hK2 _ _ ?_; try clear hK2 K2
  refine CW.seq fun K5 hK5 => ?_
  have hm41 : ¬ ((40 : Int) < (m : Int)) := by assumption
  have hm40 : m ≤ 40 := by omega
  refine CW.region ?_   -- region 3
  refine WL.val (Y.assign rfl) (by decide) ?_   -- t5 := assign c(0:i64)
  refine WL.nil ?_
  refine hK5 _ _ ?_; try clear hK5 K5
  refine CW.seq fun K6 hK6 => ?_
  refine CW.seq fun K7 hK7 => ?_
  refine CW.region ?_   -- region 4
  refine WL.val (Y.move rfl) (by decide) ?_   -- t25 := move t0
  refine WL.val (Y.len_slice Try.underlying22 rfl) (by decide) ?_   -- t26 := call len(t25) : 22
  refine WL.val (Y.move rfl) (by decide) ?_   -- t27 := move c(0:i64)
  refine WL.nil ?_
  refine hK7 _ _ ?_; try clear hK7 K7
  refine CW.block ?_   -- block 0
  refine CW.loop (X := Nat) (fun x => [(0, .slice A m c), (1, .int .i64 bi), (5, .int .i64 (opsN (l.take x) : Int)), (25, .slice A m c), (26, .int .i64 (m : Int)), (27, .int .i64 (x : Int))]) (fun x w0 => x ≤ m ∧ ((l.take x).map CmV.id).Nodup ∧ Ext w2 w0) (fun x => m - x) 0 (by repeat (first | exact Fr.le.nil | refine Fr.le.cons rfl ?_)) ⟨Nat.zero_le _, (by simp), Chg.refl⟩ ?_
  intro x w4 hl4
  obtain ⟨k, rfl⟩ : ∃ k, k = x := ⟨_, rfl⟩
  obtain ⟨hkm, hid, hL⟩ := hl4
  have hE := hE.thenExt hL
  refine CW.seq fun K8 hK8 => ?_
  refine CW.region ?_   -- region 5
  refine WL.val (Y.lss rfl rfl) (by decide) ?_   -- t28 := binOp lss 3 t27 t26 3
  refine WL.nil ?_
  refine hK8 _ _ ?_; try clear hK8 K8
  refine CW.seq fun K9 hK9 => ?_
  first | refine CW.condD rfl (fun ht10 => ?_) (fun ht10 => ?_) | refine CW.condND rfl (fun ht10 => ?_) (fun ht10 => ?_) | refine CW.condN rfl (fun ht10 => ?_) (fun ht10 => ?_) | refine CW.cond rfl (fun ht10 => ?_) (fun ht10 => ?_)
  · -- then
    refine CW.skip ?_
    refine hK9 _ _ ?_; try clear hK9 K9
    refine CW.seq fun K11 hK11 => ?_
    refine CW.block ?_   -- block 1
    refine CW.seq fun K12 hK12 => ?_
    refine CW.region ?_   -- region 6
    refine WL.val (Y.move rfl) (by decide) ?_   -- t29 := move t27
    refine WL.val (Y.assign rfl) (by decide) ?_   -- t6 := assign t29
    refine WL.nil ?_
    refine hK12 _ _ ?_; try clear hK12 K12
    refine CW.seq fun K13 hK13 => ?_
    obtain ⟨y, hy⟩ : ∃ y, l[k]? = some y := ⟨_, List.getElem?_eq_getElem (by omega)⟩
    have hym := List.mem_of_getElem? hy
    obtain ⟨aa, rfl, hmy⟩ := (hl.ext hE).sl.get hy
    have hns := opsN_succ hy
    have hnb := opsN_le (B := 2199023255552) (l := l.take k) (fun z hz => by have := hl.fit z (List.mem_of_mem_take hz); omega)
    rw [List.length_take] at hnb
    have hyf := hl.fit y hym
    refine CW.region ?_   -- region 7
    refine WL.val (Y.move rfl) (by decide) ?_   -- t30 := move t5
    refine WL.val (Y.move rfl) (by decide) ?_   -- t31 := move t0
    refine WL.val (Y.move rfl) (by decide) ?_   -- t32 := move t6
    refine WL.val (Y.indexAddrN Try.underlying22 rfl rfl sz0_recensionlaw08Commit (by omega)) (by decide) ?_   -- t33 := indexAddr 22 t31 t32
    refine WL.val (Y.fieldAddr fo_recensionlaw08Commit1 rfl) (by decide) ?_   -- t34 := fieldAddr 42 t33 1
    refine WL.val (Y.load1 Try.underlying35 rfl hmy.recensionlaw08Commit1 rfl) (by decide) ?_   -- t35 := load 35 t34
    refine WL.val (Y.len_slice Try.underlying35 rfl) (by decide) ?_   -- t36 := call len(t35) : 35
    refine WL.val (Y.add rfl rfl ⟨by omega, by omega⟩) (by decide) ?_   -- t37 := binOp add 3 t30 t36 3
    refine WL.val (Y.assign rfl) (by decide) ?_   -- t5 := assign t37
    refine WL.nil ?_
    refine hK13 _ _ ?_; try clear hK13 K13
    refine CW.seq fun K14 hK14 => ?_
    refine CW.region ?_   -- region 8
    refine WL.val (Y.move rfl) (by decide) ?_   -- t38 := move t6
    refine WL.val (Y.move rfl) (by decide) ?_   -- t39 := move c(0:i64)
    refine WL.nil ?_
    refine hK14 _ _ ?_; try clear hK14 K14
    refine CW.block ?_   -- block 2
    refine CW.loop (X := Nat) (fun x => [(0, .slice (some aa) m c), (1, .int .i64 bi), (5, .int .i64 ((opsN (l.take k) : Int) + (y.ops.length : Int))), (6, .int .i64 (k : Int)), (25, .slice (some aa) m c), (26, .int .i64 (m : Int)), (27, .int .i64 (k : Int)), (38, .int .i64 (k : Int)), (39, .int .i64 (x : Int))]) (fun x w0 => x ≤ k ∧ (∀ (j : Nat) (z : CmV), j < x → l[j]? = some z → z.id ≠ y.id) ∧ Ext w4 w0) (fun x => k - x) 0 (by repeat (first | exact Fr.le.nil | refine Fr.le.cons rfl ?_)) ⟨Nat.zero_le _, (fun j z h => by omega), Chg.refl⟩ ?_
    intro x w5 hl5
    obtain ⟨hxk, hno, hL2⟩ := hl5
    have hE := hE.thenExt hL2
    refine CW.seq fun K15 hK15 => ?_
    refine CW.region ?_   -- region 9
    refine WL.val (Y.lss rfl rfl) (by decide) ?_   -- t40 := binOp lss 3 t39 t38 3
    refine WL.nil ?_
    refine hK15 _ _ ?_; try clear hK15 K15
    refine CW.seq fun K16 hK16 => ?_
    first | refine CW.condD rfl (fun ht17 => ?_) (fun ht17 => ?_) | refine CW.condND rfl (fun ht17 => ?_) (fun ht17 => ?_) | refine CW.condN rfl (fun ht17 => ?_) (fun ht17 => ?_) | refine CW.cond rfl (fun ht17 => ?_) (fun ht17 => ?_)
    · -- then
      refine CW.skip ?_
      refine hK16 _ _ ?_; try clear hK16 K16
      refine CW.seq fun K18 hK18 => ?_
      refine CW.block ?_   -- block 3
      refine CW.seq fun K19 hK19 => ?_
      refine CW.region ?_   -- region 10
      refine WL.val (Y.move rfl) (by decide) ?_   -- t41 := move t39
      refine WL.val (Y.assign rfl) (by decide) ?_   -- t7 := assign t41
      refine WL.nil ?_
      refine hK19 _ _ ?_; try clear hK19 K19
      refine CW.seq fun K20 hK20 => ?_
      obtain ⟨z, hz⟩ : ∃ z, l[x]? = some z := ⟨_, List.getElem?_eq_getElem (by omega)⟩
      obtain ⟨a2, ha2, hmz⟩ := (hl.ext hE).sl.get hz
      obtain rfl := Option.some.inj ha2
      obtain ⟨a3, ha3, hmy5⟩ := (hl.ext hE).sl.get hy
      obtain rfl := Option.some.inj ha3
      refine CW.quiet (fun wq => Ext w5 wq) (by kernel_rfl) (by kernel_rfl) Chg.drew ?_
      refine QL.val (fun wq hq => Y.move rfl) (by decide) ?_   -- t42 := move t0
      refine QL.val (fun wq hq => Y.move rfl) (by decide) ?_   -- t43 := move t7
      refine QL.val (fun wq hq => Y.indexAddrN Try.underlying22 rfl rfl sz0_recensionlaw08Commit (by omega)) (by decide) ?_   -- t44 := indexAddr 22 t42 t43
      refine QL.val (fun wq hq => Y.fieldAddr fo_recensionlaw08Commit0 rfl) (by decide) ?_   -- t45 := fieldAddr 42 t44 0
      refine QL.val (fun wq hq => Y.load Try.underlying24 rfl ((hmz.ext hq).recensionlaw08Commit0) (sz_apiDigest _) rfl) (by decide) ?_   -- t46 := load 24 t45
      refine QL.val (fun wq hq => Y.move rfl) (by decide) ?_   -- t47 := move t0
      refine QL.val (fun wq hq => Y.move rfl) (by decide) ?_   -- t48 := move t6
      refine QL.val (fun wq hq => Y.indexAddrN Try.underlying22 rfl rfl sz0_recensionlaw08Commit (by omega)) (by decide) ?_   -- t49 := indexAddr 22 t47 t48
      refine QL.val (fun wq hq => Y.fieldAddr fo_recensionlaw08Commit0 rfl) (by decide) ?_   -- t50 := fieldAddr 42 t49 0
      refine QL.val (fun wq hq => Y.load Try.underlying24 rfl ((hmy5.ext hq).recensionlaw08Commit0) (sz_apiDigest _) rfl) (by decide) ?_   -- t51 := load 24 t50
      refine QL.val (fun wq hq => Y.eql_apiDigest rfl rfl) (by decide) ?_   -- t52 := binOp eql 24 t46 t51 24
      refine QL.nil fun w6 hx6 => ?_
      have hz6 := hx6.size
      have hE := hE.thenExt hx6
      refine hK20 _ _ ?_; try clear hK20 K20
      first | refine CW.condD rfl (fun ht21 => ?_) (fun ht21 => ?_) | refine CW.condND rfl (fun ht21 => ?_) (fun ht21 => ?_) | refine CW.condN rfl (fun ht21 => ?_) (fun ht21 => ?_) | refine CW.cond rfl (fun ht21 => ?_) (fun ht21 => ?_)
      · -- then
        refine CW.seq fun K22 hK22 => ?_
        refine CW.region ?_   -- region 12
        refine WL.val (Y.assign rfl) (by decide) ?_   -- t4 := assign c(true)
        refine WL.nil ?_
        refine hK22 _ _ ?_; try clear hK22 K22
        refine CW.ret ⟨_, rfl, ?_⟩
        exact ⟨rfl, hE⟩
      -- else
      refine CW.skip ?_
      refine hK18 _ _ ?_; try clear hK18 K18
      refine CW.region ?_   -- region 13
      refine WL.val (Y.add rfl rfl ⟨by omega, by omega⟩) (by decide) ?_   -- t53 := binOp add 3 t39 c(1:i64) 3
      refine WL.val (Y.move rfl) (by decide) ?_   -- t39 := move t53
      refine WL.nil ?_
      exact ⟨x + 1, (by show k - (x + 1) < k - x; omega), (by repeat (first | exact Fr.le.nil | refine Fr.le.cons rfl ?_)), (by show x + 1 ≤ k; omega), (fun j z2 hj hz2 => by
        by_cases e : j = x
        · subst e; rw [hz] at hz2; cases hz2; assumption
        · exact hno j z2 (by omega) hz2), hL2.thenExt hx6⟩
    -- else
    refine CW.exit ?_   -- exit 2
    refine hK11 _ _ ?_; try clear hK11 K11
    refine CW.region ?_   -- region 14
    refine WL.val (Y.add rfl rfl ⟨by omega, by omega⟩) (by decide) ?_   -- t54 := binOp add 3 t27 c(1:i64) 3
    refine WL.val (Y.move rfl) (by decide) ?_   -- t27 := move t54
    refine WL.nil ?_
    have hxk2 : x = k := by omega
    subst hxk2
    refine ⟨x + 1, (by show m - (x + 1) < m - x; omega), (by rw [hns]; exact (by repeat (first | exact Fr.le.nil | refine Fr.le.cons rfl ?_))), (by show x + 1 ≤ m; omega), ?_, hL.thenExt hL2⟩
    rw [Go.Pl.take_succ hy, List.map_append]
    refine List.nodup_append.2 ⟨hid, by simp, fun a ha b hb => ?_⟩
    simp at hb; subst hb
    obtain ⟨z, hz, rfl⟩ := List.mem_map.1 ha
    obtain ⟨j, hj⟩ := List.mem_iff_getElem?.1 hz
    have hjl := (List.getElem?_eq_some_iff.1 hj).1
    rw [List.length_take] at hjl
    rw [List.getElem?_take, if_pos (by omega)] at hj
    exact hno j z (by omega) hj
  -- else
  refine CW.exit ?_   -- exit 0
  refine hK6 _ _ ?_; try clear hK6 K6
  refine CW.seq fun K23 hK23 => ?_
  have htx : l.take k = l := List.take_of_length_le (by omega)
  rw [htx] at hid ⊢
  refine CW.seq_test 61 (400000 < (opsN l : Int) ∨ (m : Int) = 0) ?_ ?_
  · refine CW.region ?_
    refine WL.val (Y.move rfl) (by decide) ?_   -- t55 := move t5
    refine WL.val (Y.gtr rfl rfl) (by decide) ?_   -- t56 := binOp gtr 3 t55 c(400000:i64) 3
    refine WL.val (Y.move rfl) (by decide) ?_   -- t57 := move t56
    first | refine WL.casesD (d := 57) rfl (fun hg57 => ?_) (fun hg57 => ?_) | refine WL.casesND (d := 57) rfl (fun hg57 => ?_) (fun hg57 => ?_) | refine WL.cases (d := 57) rfl (fun hg57 => ?_) (fun hg57 => ?_)
    · -- t57 = T
      refine WL.goff rfl rfl (by decide) ?_   -- t58 := move t0 [if 2=false]
      refine WL.goff rfl rfl (by decide) ?_   -- t59 := call len(t58) : 22 [if 2=false]
      refine WL.goff rfl rfl (by decide) ?_   -- t60 := binOp eql 3 t59 c(0:i64) 3 [if 2=false]
      refine WL.val (Y.pick rfl rfl) (by decide) ?_   -- t61 := pick t57 c(true) t60
      refine WL.nil ⟨⟨_, rfl, ?_⟩, rfl, (by repeat (first | exact Fr.le.refl | refine Fr.le.push rfl ?_))⟩
      first | (simp only [*, Int.natCast_inj, Bool.not_eq_true', decide_eq_false_iff_not, decide_eq_true_eq, not_true_eq_false, not_false_eq_true, true_and, false_and, and_true, and_false, false_or, or_false, true_or, or_true, iff_true, true_iff, iff_false, false_iff]; done) | (simp_all; done) | (refine congrArg Value.bool (Bool.eq_iff_iff.2 ?_); simp_all; done) | (simp_all; omega)
    · -- t57 = F
      refine WL.gval rfl rfl (Y.move rfl) (by decide) ?_   -- t58 := move t0 [if 2=false]
      refine WL.gval rfl rfl (Y.len_slice Try.underlying22 rfl) (by decide) ?_   -- t59 := call len(t58) : 22 [if 2=false]
      refine WL.gval rfl rfl (Y.eql rfl rfl) (by decide) ?_   -- t60 := binOp eql 3 t59 c(0:i64) 3 [if 2=false]
      refine WL.val (Y.pick rfl rfl) (by decide) ?_   -- t61 := pick t57 c(true) t60
      refine WL.nil ⟨⟨_, rfl, ?_⟩, rfl, (by repeat (first | exact Fr.le.refl | refine Fr.le.push rfl ?_))⟩
      first | (simp only [*, Int.natCast_inj, Bool.not_eq_true', decide_eq_false_iff_not, decide_eq_true_eq, not_true_eq_false, not_false_eq_true, true_and, false_and, and_true, and_false, false_or, or_false, true_or, or_true, iff_true, true_iff, iff_false, false_iff]; done) | (simp_all; done) | (refine congrArg Value.bool (Bool.eq_iff_iff.2 ?_); simp_all; done) | (simp_all; omega)
  first | refine CW.condD rfl (fun ht24 => ?_) (fun ht24 => ?_) | refine CW.condND rfl (fun ht24 => ?_) (fun ht24 => ?_) | refine CW.condN rfl (fun ht24 => ?_) (fun ht24 => ?_) | refine CW.cond rfl (fun ht24 => ?_) (fun ht24 => ?_)
  · -- then
    refine CW.seq fun K25 hK25 => ?_
    refine CW.region ?_   -- region 16
    refine WL.val (Y.assign rfl) (by decide) ?_   -- t4 := assign c(true)
    refine WL.nil ?_
    refine hK25 _ _ ?_; try clear hK25 K25
    refine CW.ret ⟨_, rfl, ?_⟩
    exact ⟨rfl, hE⟩
  -- else
  refine CW.skip ?_
  refine hK23 _ _ ?_; try clear hK23 K23
  refine CW.seq fun K26 hK26 => ?_
  have hne : ¬ (400000 < (opsN l : Int) ∨ (m : Int) = 0) := by assumption
  have hsum : opsN l ≤ 400000 := by omega
  have hxp : 0 < m := by omega
  have hb1 : -(m : Int) < bi.tmod m := Int.lt_tmod_of_pos _ (by omega)
  have hb2 : bi.tmod m < (m : Int) := Int.tmod_lt_of_pos _ (by omega)
  obtain ⟨k, hk, hkv⟩ : ∃ k : Nat, k < m ∧ (bi.tmod m + m).tmod m = (k : Int) := by
    have h1 : 0 ≤ (bi.tmod m + m).tmod m := Int.tmod_nonneg _ (by omega)
    have h2 : (bi.tmod m + m).tmod m < (m : Int) := Int.tmod_lt_of_pos _ (by omega)
    exact ⟨((bi.tmod m + m).tmod m).toNat, by omega, by omega⟩
  refine CW.region ?_   -- region 17
  refine WL.val (Y.move rfl) (by decide) ?_   -- t62 := move t1
  refine WL.val (Y.move rfl) (by decide) ?_   -- t63 := move t0
  refine WL.val (Y.len_slice Try.underlying22 rfl) (by decide) ?_   -- t64 := call len(t63) : 22
  refine WL.val (Y.rem rfl rfl (by omega)) (by decide) ?_   -- t65 := binOp rem 3 t62 t64 3
  refine WL.val (Y.move rfl) (by decide) ?_   -- t66 := move t0
  refine WL.val (Y.len_slice Try.underlying22 rfl) (by decide) ?_   -- t67 := call len(t66) : 22
  refine WL.val (Y.add rfl rfl ⟨by omega, by omega⟩) (by decide) ?_   -- t68 := binOp add 3 t65 t67 3
  refine WL.val (Y.move rfl) (by decide) ?_   -- t69 := move t0
  refine WL.val (Y.len_slice Try.underlying22 rfl) (by decide) ?_   -- t70 := call len(t69) : 22
  refine WL.val (Y.rem rfl rfl (by omega)) (by decide) ?_   -- t71 := binOp rem 3 t68 t70 3
  rw [hkv]
  refine WL.val (Y.assign rfl) (by decide) ?_   -- t1 := assign t71
  refine WL.nil ?_
  refine hK26 _ _ ?_; try clear hK26 K26
  refine CW.seq fun K27 hK27 => ?_
  refine CW.region ?_   -- region 18
  refine WL.val (Y.assign rfl) (by decide) ?_   -- t8 := assign c(nilslice)
  refine WL.nil ?_
  refine hK27 _ _ ?_; try clear hK27 K27
  refine CW.seq fun K28 hK28 => ?_
  refine CW.seq fun K29 hK29 => ?_
  refine CW.region ?_   -- region 19
  refine WL.val (Y.move rfl) (by decide) ?_   -- t72 := move t0
  refine WL.val (Y.len_slice Try.underlying22 rfl) (by decide) ?_   -- t73 := call len(t72) : 22
  refine WL.val (Y.move rfl) (by decide) ?_   -- t74 := move c(0:i64)
  refine WL.nil ?_
  refine hK29 _ _ ?_; try clear hK29 K29
  refine CW.block ?_   -- block 4
  refine CW.loop (X := Nat × Value) (fun x => [(0, .slice A m c), (1, .int .i64 (k : Int)), (8, x.2), (72, .slice A m c), (73, .int .i64 (m : Int)), (74, .int .i64 (x.1 : Int))]) (fun x w0 => x.1 ≤ m ∧ Own w0 TCm 33 x.2 (((rot l k x.1).map cmC).flatten) ∧ (∀ q, x.2.ownBlock = some q → w4.heap.size ≤ q) ∧ Ext w4 w0) (fun x => m - x.1) (0, .slice none 0 0) (by repeat (first | exact Fr.le.nil | refine Fr.le.cons rfl ?_)) ⟨Nat.zero_le _, Own.nil, (fun q h => by simp [Value.ownBlock] at h), Chg.refl⟩ ?_
  intro x w7 hl7
  obtain ⟨j, bv⟩ := x
  dsimp only at hl7 ⊢
  obtain ⟨hjm, hO, hfr, hL2⟩ := hl7
  have hE := hE.thenExt hL2
  refine CW.seq fun K30 hK30 => ?_
  refine CW.region ?_   -- region 20
  refine WL.val (Y.lss rfl rfl) (by decide) ?_   -- t75 := binOp lss 3 t74 t73 3
  refine WL.nil ?_
  refine hK30 _ _ ?_; try clear hK30 K30
  refine CW.seq fun K31 hK31 => ?_
  first | refine CW.condD rfl (fun ht32 => ?_) (fun ht32 => ?_) | refine CW.condND rfl (fun ht32 => ?_) (fun ht32 => ?_) | refine CW.condN rfl (fun ht32 => ?_) (fun ht32 => ?_) | refine CW.cond rfl (fun ht32 => ?_) (fun ht32 => ?_)
  · -- then
    refine CW.skip ?_
    refine hK31 _ _ ?_; try clear hK31 K31
    refine CW.seq fun K33 hK33 => ?_
    refine CW.block ?_   -- block 5
    refine CW.seq fun K34 hK34 => ?_
    refine CW.region ?_   -- region 21
    refine WL.val (Y.move rfl) (by decide) ?_   -- t76 := move t74
    refine WL.val (Y.assign rfl) (by decide) ?_   -- t9 := assign t76
    refine WL.nil ?_
    refine hK34 _ _ ?_; try clear hK34 K34
    have hmod : (j + k) % l.length < l.length := Nat.mod_lt _ (by omega)
    have hrm : ((j : Int) + (k : Int)).tmod (m : Int) = (((j + k) % l.length : Nat) : Int) := by
      rw [← Int.natCast_add, Int.tmod_eq_emod_of_nonneg (by omega), ← Int.natCast_emod, hm]
    obtain ⟨y, hy⟩ : ∃ y, l[l.length - 1 - (j + k) % l.length]? = some y := ⟨_, List.getElem?_eq_getElem (by omega)⟩
    obtain ⟨aa, rfl, hmy⟩ := (hl.ext hE).sl.get hy
    have hrs := rot_succ hy
    have hrl := rot_length (k := k) (show 0 < l.length by omega) j
    refine CW.region ?_   -- region 22
    refine WL.val (Y.move rfl) (by decide) ?_   -- t77 := move t8
    refine WL.val (Y.move rfl) (by decide) ?_   -- t78 := move t0
    refine WL.val (Y.move rfl) (by decide) ?_   -- t79 := move t0
    refine WL.val (Y.len_slice Try.underlying22 rfl) (by decide) ?_   -- t80 := call len(t79) : 22
    refine WL.val (Y.sub rfl rfl ⟨by omega, by omega⟩) (by decide) ?_   -- t81 := binOp sub 3 t80 c(1:i64) 3
    refine WL.val (Y.move rfl) (by decide) ?_   -- t82 := move t9
    refine WL.val (Y.move rfl) (by decide) ?_   -- t83 := move t1
    refine WL.val (Y.add rfl rfl ⟨by omega, by omega⟩) (by decide) ?_   -- t84 := binOp add 3 t82 t83 3
    refine WL.val (Y.move rfl) (by decide) ?_   -- t85 := move t0
    refine WL.val (Y.len_slice Try.underlying22 rfl) (by decide) ?_   -- t86 := call len(t85) : 22
    refine WL.val (Y.rem rfl rfl (by omega)) (by decide) ?_   -- t87 := binOp rem 3 t84 t86 3
    rw [hrm]
    refine WL.val (Y.sub rfl rfl ⟨by omega, by omega⟩) (by decide) ?_   -- t88 := binOp sub 3 t81 t87 3
    rw [show ((m : Int) - 1 - (((j + k) % l.length : Nat) : Int)) = ((l.length - 1 - (j + k) % l.length : Nat) : Int) by omega]
    refine WL.val (Y.indexAddrN Try.underlying22 rfl rfl sz0_recensionlaw08Commit (by omega)) (by decide) ?_   -- t89 := indexAddr 22 t78 t88
    refine WL.val (Y.load Try.underlying42 rfl hmy (sz_recensionlaw08Commit _) rfl) (by decide) ?_   -- t90 := load 42 t89
    refine WL.st (St.buildSlice rfl (bs1_cm y)) (by decide) fun v91 w8 hR8 => ?_   -- t91 := buildSlice 22 1 [(0,t90)]
    obtain ⟨g91, rfl, hg91, hB91, hx8⟩ := hR8
    have hz8 := hx8.size
    refine WL.st (St.append (m := 1) (news := cmC y) Try.underlying22 Try.underlying22 ai_cm rfl rfl (hO.ext hx8) (Fw.Src.one hB91 (cmC_length y)) one_cmC (by rw [flat_length cmC_length, hrl]; omega)) (by decide) fun v92 w9 hR9 => ?_   -- t92 := call append(t77, t91) : 22,22
    obtain ⟨hO9, hc9, hf9⟩ := hR9
    have hz9 := hc9.size
    have hL9 : Ext w4 w9 := (hL2.thenExt hx8).step hc9 (fun q hq => hfr q hq)
    have hzL := hL2.size
    refine WL.val (Y.assign rfl) (by decide) ?_   -- t8 := assign t92
    refine WL.nil ?_
    refine hK33 _ _ ?_; try clear hK33 K33
    refine CW.region ?_   -- region 23
    refine WL.val (Y.add rfl rfl ⟨by omega, by omega⟩) (by decide) ?_   -- t93 := binOp add 3 t74 c(1:i64) 3
    refine WL.val (Y.move rfl) (by decide) ?_   -- t74 := move t93
    refine WL.nil ?_
    exact ⟨(j + 1, v92), (by show m - (j + 1) < m - j; omega), (by repeat (first | exact Fr.le.nil | refine Fr.le.cons rfl ?_)), (by show j + 1 ≤ m; omega), (by show Own _ _ _ _ (((rot l k (j + 1)).map cmC).flatten); rw [hrs, List.map_append, List.flatten_append]; simpa using hO9), (fun q hq => by
      rcases hf9 with h | h
      · rw [h] at hq; exact hfr q hq
      · have := h q hq; omega), hL9⟩
  -- else
  refine CW.exit ?_   -- exit 4
  refine hK28 _ _ ?_; try clear hK28 K28
  refine CW.seq fun K35 hK35 => ?_
  refine CW.region ?_   -- region 24
  refine WL.val (Y.move rfl) (by decide) ?_   -- t94 := move t0
  refine WL.call Try.func23 rfl rfl rfl (all_any _ l _ (hl.ext hE)) (by simp) ?_; rintro v95 w10 hR10   -- t95 := call F23(t94) : 22
  obtain ⟨ga, rba, raa, nsa, La, Ta, rfl, hAa, hSa⟩ := hR10
  have hjm2 : j = l.length := by omega
  subst hjm2
  have hl0 : 0 < l.length := by omega
  have hkl : k < l.length := by omega
  have hlen := rot_length (k := k) hl0 l.length
  obtain ⟨bA, bm, bk, rfl⟩ := hO.lens
  have hSlb := hO.sl cmC_length (by decide)
  have hCb : Cms w10 (.slice bA bm bk) (rot l k l.length) := ⟨hSlb.ext hAa.ext, fun z hz => (hl.ops z ((rot_mem hl0 hkl).1 hz)).ext (hE.thenExt hAa.ext), fun z hz => hl.fit z ((rot_mem hl0 hkl).1 hz), by rw [hlen]; exact hl.few⟩
  have hz10 := hAa.ext.size
  have hE := hE.thenExt hAa.ext
  refine WL.val (Y.move rfl) (by decide) ?_   -- t96 := move t8
  refine WL.call Try.func23 rfl rfl rfl (all_any _ (rot l k l.length) _ hCb) (by simp) ?_; rintro v97 w11 hR11   -- t97 := call F23(t96) : 22
  obtain ⟨gb, rbb, rab, nsb, Lb, Tb, rfl, hAb, hSb⟩ := hR11
  have hz11 := hAb.ext.size
  have hE := hE.thenExt hAb.ext
  have hids2 := rot_nodup (k := k) hl0 hid
  have hmemC : ∀ d, d ∈ comsL l ↔ d ∈ comsL (rot l k l.length) := fun d => by
    constructor
    · intro h
      obtain ⟨z, hz, rfl⟩ := List.mem_map.1 h
      exact List.mem_map.2 ⟨z, (rot_mem hl0 hkl).2 hz, rfl⟩
    · intro h
      obtain ⟨z, hz, rfl⟩ := List.mem_map.1 h
      exact List.mem_map.2 ⟨z, (rot_mem hl0 hkl).1 hz, rfl⟩
  have hs1 := ins_ops l
  have hs2 : ((comsL (rot l k l.length)).map fun c => insN c.2).sum ≤ ((comsL l).map fun c => insN c.2).sum := by
    letI : DecidableEq (Dig × List OpD) := fun a b => Classical.propDecidable (a = b)
    exact sum_sub _ (nodup_of_map (f := (·.1)) (by rw [ids_coms]; exact hids2)) (fun d hd => (hmemC d).2 hd)
  have hsame := same_all hAa.ok hAb.ok hAa.sub hAb.sub hmemC (by rw [ids_coms]; exact hid) (by rw [ids_coms]; exact hids2) (by omega) (by omega) hSa hSb
  have hview := same_walk hAa.ok hAb.ok hsame
  obtain ⟨hnames, htext⟩ := same_seen hview
  have hGa : Fu.Good (Fw.els nsa) := by rw [hAa.fe]; exact hAa.ok.good
  have hGb : Fu.Good (Fw.els nsb) := by rw [hAb.fe]; exact hAb.ok.good
  have hela : (Fw.els nsa).length = nsa.length := List.length_map _
  have helb : (Fw.els nsb).length = nsb.length := List.length_map _
  have hna : nsa.length ≤ 400001 := by rw [← hela, hAa.fe]; exact hAa.ok.few
  have hnb : nsb.length ≤ 400001 := by rw [← helb, hAb.fe]; exact hAb.ok.few
  have hll : nsa.length = nsb.length := by
    have h1 := congrArg List.length hview
    rw [List.length_map, List.length_map, hAa.ok.good.perm.length_eq, hAb.ok.good.perm.length_eq, List.length_range, List.length_range] at h1
    rw [← hela, ← helb, hAa.fe, hAb.fe, h1]
  obtain ⟨NB, hNB⟩ : ∃ NB, NB = (seenE Tb.e).map (nm Tb.e) := ⟨_, rfl⟩
  refine WL.val (Y.assign rfl) (by decide) ?_   -- t10 := assign t95
  refine WL.val (Y.assign rfl) (by decide) ?_   -- t11 := assign t97
  refine WL.nil ?_
  refine hK35 _ _ ?_; try clear hK35 K35
  refine CW.seq fun K36 hK36 => ?_
  refine CW.region ?_   -- region 25
  refine WL.val (Y.move rfl) (by decide) ?_   -- t99 := move t10
  refine WL.call Try.func21 rfl rfl rfl (walked_any ga rba raa _ nsa _ (hAa.ft.ext hAb.ext) hGa hna) (by simp) ?_; rintro v100 w12 hR12   -- t100 := call F21(t99) : 27
  obtain ⟨lva, rfl, hOa, _, hx12⟩ := hR12
  have hz12 := hx12.size
  have hE := hE.thenExt hx12
  rw [hAa.fe] at hOa
  obtain ⟨aA, am, ak, rfl⟩ := hOa.lens
  have hSa2 : Sl w12 refC 34 (.slice aA am ak) NB := (show Own w12 49 34 (.slice aA am ak) ((NB.map refC).flatten) by rw [hNB, ← hnames, List.map_map]; exact hOa).sl refC_length (by decide)
  rw [hAa.fe, htext]
  refine WL.val (Y.move rfl) (by decide) ?_   -- t98 := move t100
  refine WL.val (Y.extract rfl rfl) (by decide) ?_   -- t101 := extract t98 0
  refine WL.val (Y.extract rfl rfl) (by decide) ?_   -- t102 := extract t98 1
  refine WL.val (Y.assign rfl) (by decide) ?_   -- t12 := assign t101
  refine WL.val (Y.assign rfl) (by decide) ?_   -- t13 := assign t102
  refine WL.nil ?_
  refine hK36 _ _ ?_; try clear hK36 K36
  refine CW.seq fun K37 hK37 => ?_
  refine CW.region ?_   -- region 26
  refine WL.val (Y.move rfl) (by decide) ?_   -- t104 := move t11
  refine WL.call Try.func21 rfl rfl rfl (walked_any gb rbb rab _ nsb _ (hAb.ft.ext hx12) hGb hnb) (by simp) ?_; rintro v105 w13 hR13   -- t105 := call F21(t104) : 27
  obtain ⟨lvb, rfl, hOb, _, hx13⟩ := hR13
  have hz13 := hx13.size
  have hE := hE.thenExt hx13
  rw [hAb.fe] at hOb
  obtain ⟨cA, cm, ck, rfl⟩ := hOb.lens
  have hSb2 : Sl w13 refC 34 (.slice cA cm ck) NB := (show Own w13 49 34 (.slice cA cm ck) ((NB.map refC).flatten) by rw [hNB, List.map_map]; exact hOb).sl refC_length (by decide)
  have hSa2 := hSa2.ext hx13
  rw [hAb.fe]
  obtain ⟨_, _, _, e1, hal, hac, hax, _⟩ := _root_.id hSa2
  injection e1 with _ e2 e3
  obtain ⟨_, _, _, e4, hbl, hbc, hbx, _⟩ := _root_.id hSb2
  injection e4 with _ e5 e6
  unfold maxLen at hax hbx
  have hE13 := hE
  have hab : am = cm := by omega
  subst hab
  refine WL.val (Y.move rfl) (by decide) ?_   -- t103 := move t105
  refine WL.val (Y.extract rfl rfl) (by decide) ?_   -- t106 := extract t103 0
  refine WL.val (Y.extract rfl rfl) (by decide) ?_   -- t107 := extract t103 1
  refine WL.val (Y.assign rfl) (by decide) ?_   -- t14 := assign t106
  refine WL.val (Y.assign rfl) (by decide) ?_   -- t15 := assign t107
  refine WL.nil ?_
  refine hK37 _ _ ?_; try clear hK37 K37
  refine CW.seq fun K38 hK38 => ?_
  refine CW.seq_testE 124 (False) ?_ ?_
  · refine CW.region ?_
    refine WL.val (Y.move rfl) (by decide) ?_   -- t108 := move t12
    refine WL.val (Y.len_slice Try.underlying57 rfl) (by decide) ?_   -- t109 := call len(t108) : 57
    refine WL.val (Y.move rfl) (by decide) ?_   -- t110 := move t14
    refine WL.val (Y.len_slice Try.underlying57 rfl) (by decide) ?_   -- t111 := call len(t110) : 57
    refine WL.val (Y.neq rfl rfl) (by decide) ?_   -- t112 := binOp neq 3 t109 t111 3
    refine WL.val (Y.move rfl) (by decide) ?_   -- t113 := move t112
    first | refine WL.casesD (d := 113) rfl (fun hg113 => ?_) (fun hg113 => ?_) | refine WL.casesND (d := 113) rfl (fun hg113 => ?_) (fun hg113 => ?_) | refine WL.cases (d := 113) rfl (fun hg113 => ?_) (fun hg113 => ?_)
    · -- t113 = T
      refine WL.goff rfl rfl (by decide) ?_   -- t114 := move t13 [if 5=false]
      refine WL.goff rfl rfl (by decide) ?_   -- t115 := move t15 [if 5=false]
      refine WL.goff rfl rfl (by decide) ?_   -- t116 := binOp neq 9 t114 t115 9 [if 5=false]
      refine WL.val (Y.pick rfl rfl) (by decide) ?_   -- t117 := pick t113 c(true) t116
      refine WL.val (Y.move rfl) (by decide) ?_   -- t118 := move t117
      refine WL.goff rfl rfl (by decide) ?_   -- t119 := move t10 [if 10=false]
      refine WL.goff rfl rfl (by decide) ?_   -- t120 := call F24(t119) : 27 [if 10=false]
      refine WL.goff rfl rfl (by decide) ?_   -- t121 := move t11 [if 10=false]
      refine WL.goff rfl rfl (by decide) ?_   -- t122 := call F24(t121) : 27 [if 10=false]
      refine WL.goff rfl rfl (by decide) ?_   -- t123 := binOp neq 3 t120 t122 3 [if 10=false]
      refine WL.val (Y.pick rfl rfl) (by decide) ?_   -- t124 := pick t118 c(true) t123
      refine WL.nil ⟨⟨_, rfl, ?_⟩, Chg.refl, (by repeat (first | exact Fr.le.refl | refine Fr.le.push rfl ?_))⟩
      first | (simp only [*, Int.natCast_inj, Bool.not_eq_true', decide_eq_false_iff_not, decide_eq_true_eq, not_true_eq_false, not_false_eq_true, true_and, false_and, and_true, and_false, false_or, or_false, true_or, or_true, iff_true, true_iff, iff_false, false_iff]; done) | (simp_all; done) | (refine congrArg Value.bool (Bool.eq_iff_iff.2 ?_); simp_all; done) | (simp_all; omega)
    · -- t113 = F
      refine WL.gval rfl rfl (Y.move rfl) (by decide) ?_   -- t114 := move t13 [if 5=false]
      refine WL.gval rfl rfl (Y.move rfl) (by decide) ?_   -- t115 := move t15 [if 5=false]
      refine WL.gval rfl rfl (Y.neq_string rfl rfl) (by decide) ?_   -- t116 := binOp neq 9 t114 t115 9 [if 5=false]
      refine WL.val (Y.pick rfl rfl) (by decide) ?_   -- t117 := pick t113 c(true) t116
      refine WL.val (Y.move rfl) (by decide) ?_   -- t118 := move t117
      first | refine WL.casesD (d := 118) rfl (fun hg118 => ?_) (fun hg118 => ?_) | refine WL.casesND (d := 118) rfl (fun hg118 => ?_) (fun hg118 => ?_) | refine WL.cases (d := 118) rfl (fun hg118 => ?_) (fun hg118 => ?_)
      · -- t118 = T
        refine WL.goff rfl rfl (by decide) ?_   -- t119 := move t10 [if 10=false]
        refine WL.goff rfl rfl (by decide) ?_   -- t120 := call F24(t119) : 27 [if 10=false]
        refine WL.goff rfl rfl (by decide) ?_   -- t121 := move t11 [if 10=false]
        refine WL.goff rfl rfl (by decide) ?_   -- t122 := call F24(t121) : 27 [if 10=false]
        refine WL.goff rfl rfl (by decide) ?_   -- t123 := binOp neq 3 t120 t122 3 [if 10=false]
        refine WL.val (Y.pick rfl rfl) (by decide) ?_   -- t124 := pick t118 c(true) t123
        refine WL.nil ⟨⟨_, rfl, ?_⟩, Chg.refl, (by repeat (first | exact Fr.le.refl | refine Fr.le.push rfl ?_))⟩
        first | (simp only [*, Int.natCast_inj, Bool.not_eq_true', decide_eq_false_iff_not, decide_eq_true_eq, not_true_eq_false, not_false_eq_true, true_and, false_and, and_true, and_false, false_or, or_false, true_or, or_true, iff_true, true_iff, iff_false, false_iff]; done) | (simp_all; done) | (refine congrArg Value.bool (Bool.eq_iff_iff.2 ?_); simp_all; done) | (simp_all; omega)
      · -- t118 = F
        refine WL.gval rfl rfl (Y.move rfl) (by decide) ?_   -- t119 := move t10 [if 10=false]
        refine WL.gcall rfl rfl Try.func24 rfl rfl rfl ((by have h9 := ffull_any ga rba raa _ nsa _ (((hAa.ft.ext hAb.ext).ext hx12).ext hx13); rw [hll] at h9; exact h9)) (by decide) ?_; rintro v w14 ⟨rfl, hx14⟩; have hz14 := hx14.size; have hE := hE.thenExt hx14   -- t120 := call F24(t119) : 27 [if 10=false]
        refine WL.gval rfl rfl (Y.move rfl) (by decide) ?_   -- t121 := move t11 [if 10=false]
        refine WL.gcall rfl rfl Try.func24 rfl rfl rfl (ffull_any gb rbb rab _ nsb _ (((hAb.ft.ext hx12).ext hx13).ext hx14)) (by decide) ?_; rintro v w15 ⟨rfl, hx15⟩; have hz15 := hx15.size; have hE := hE.thenExt hx15   -- t122 := call F24(t121) : 27 [if 10=false]
        refine WL.gval rfl rfl (Y.neq rfl rfl) (by decide) ?_   -- t123 := binOp neq 3 t120 t122 3 [if 10=false]
        refine WL.val (Y.pick rfl rfl) (by decide) ?_   -- t124 := pick t118 c(true) t123
        refine WL.nil ⟨⟨_, rfl, ?_⟩, (hx14.thenExt hx15), (by repeat (first | exact Fr.le.refl | refine Fr.le.push rfl ?_))⟩
        first | (simp only [*, Int.natCast_inj, Bool.not_eq_true', decide_eq_false_iff_not, decide_eq_true_eq, not_true_eq_false, not_false_eq_true, true_and, false_and, and_true, and_false, false_or, or_false, true_or, or_true, iff_true, true_iff, iff_false, false_iff]; done) | (simp_all; done) | (refine congrArg Value.bool (Bool.eq_iff_iff.2 ?_); simp_all; done) | (simp_all; omega)
  intro w16 hx16; have hz16 := hx16.size; have hE := hE.thenExt hx16
  first | refine CW.condD rfl (fun ht39 => ?_) (fun ht39 => ?_) | refine CW.condND rfl (fun ht39 => ?_) (fun ht39 => ?_) | refine CW.condN rfl (fun ht39 => ?_) (fun ht39 => ?_) | refine CW.cond rfl (fun ht39 => ?_) (fun ht39 => ?_)
  · -- then
    refine CW.seq fun K40 hK40 => ?_
    refine CW.region ?_   -- region 28
    refine WL.val (Y.assign rfl) (by decide) ?_   -- t4 := assign c(false)
    refine WL.nil ?_
    refine hK40 _ _ ?_; try clear hK40 K40
    refine CW.ret ⟨_, rfl, ?_⟩
    exact False.elim (by assumption)
  -- else
  refine CW.skip ?_
  refine hK38 _ _ ?_; try clear hK38 K38
  refine CW.seq fun K41 hK41 => ?_
  refine CW.seq fun K42 hK42 => ?_
  refine CW.region ?_   -- region 29
  refine WL.val (Y.move rfl) (by decide) ?_   -- t125 := move t12
  refine WL.val (Y.len_slice Try.underlying57 rfl) (by decide) ?_   -- t126 := call len(t125) : 57
  refine WL.val (Y.move rfl) (by decide) ?_   -- t127 := move c(0:i64)
  refine WL.nil ?_
  refine hK42 _ _ ?_; try clear hK42 K42
  refine CW.block ?_   -- block 6
  refine CW.loop (X := Nat) (fun x => [(12, .slice aA am ak), (14, .slice cA am ck), (126, .int .i64 (am : Int)), (127, .int .i64 (x : Int))]) (fun x w0 => x ≤ am ∧ Ext w13 w0) (fun x => am - x) 0 (by repeat (first | exact Fr.le.nil | refine Fr.le.cons rfl ?_)) ⟨Nat.zero_le _, hx16⟩ ?_
  intro x w17 hl17
  obtain ⟨hxm2, hL4⟩ := hl17
  have hE := hE13.thenExt hL4
  refine CW.seq fun K43 hK43 => ?_
  refine CW.region ?_   -- region 30
  refine WL.val (Y.lss rfl rfl) (by decide) ?_   -- t128 := binOp lss 3 t127 t126 3
  refine WL.nil ?_
  refine hK43 _ _ ?_; try clear hK43 K43
  refine CW.seq fun K44 hK44 => ?_
  first | refine CW.condD rfl (fun ht45 => ?_) (fun ht45 => ?_) | refine CW.condND rfl (fun ht45 => ?_) (fun ht45 => ?_) | refine CW.condN rfl (fun ht45 => ?_) (fun ht45 => ?_) | refine CW.cond rfl (fun ht45 => ?_) (fun ht45 => ?_)
  · -- then
    refine CW.skip ?_
    refine hK44 _ _ ?_; try clear hK44 K44
    refine CW.seq fun K46 hK46 => ?_
    refine CW.block ?_   -- block 7
    refine CW.seq fun K47 hK47 => ?_
    refine CW.region ?_   -- region 31
    refine WL.val (Y.move rfl) (by decide) ?_   -- t129 := move t127
    refine WL.val (Y.assign rfl) (by decide) ?_   -- t16 := assign t129
    refine WL.nil ?_
    refine hK47 _ _ ?_; try clear hK47 K47
    refine CW.seq fun K48 hK48 => ?_
    obtain ⟨r, hr⟩ : ∃ r, NB[x]? = some r := ⟨_, List.getElem?_eq_getElem (by omega)⟩
    obtain ⟨pa, rfl, hpa⟩ := hSa2.get hr
    obtain ⟨pb, rfl, hpb⟩ := hSb2.get hr
    refine CW.quiet (fun wq => Ext w17 wq) (by kernel_rfl) (by kernel_rfl) Chg.drew ?_
    refine QL.val (fun wq hq => Y.move rfl) (by decide) ?_   -- t130 := move t12
    refine QL.val (fun wq hq => Y.move rfl) (by decide) ?_   -- t131 := move t16
    refine QL.val (fun wq hq => Y.indexAddrN Try.underlying57 rfl rfl sz0_apiRef (by omega)) (by decide) ?_   -- t132 := indexAddr 57 t130 t131
    refine QL.val (fun wq hq => Y.load Try.underlying49 rfl ((hpa.ext hL4).ext hq) (sz_apiRef _) rfl) (by decide) ?_   -- t133 := load 49 t132
    refine QL.val (fun wq hq => Y.move rfl) (by decide) ?_   -- t134 := move t14
    refine QL.val (fun wq hq => Y.move rfl) (by decide) ?_   -- t135 := move t16
    refine QL.val (fun wq hq => Y.indexAddrN Try.underlying57 rfl rfl sz0_apiRef (by omega)) (by decide) ?_   -- t136 := indexAddr 57 t134 t135
    refine QL.val (fun wq hq => Y.load Try.underlying49 rfl ((hpb.ext hL4).ext hq) (sz_apiRef _) rfl) (by decide) ?_   -- t137 := load 49 t136
    refine QL.val (fun wq hq => Y.neq_apiRef rfl rfl) (by decide) ?_   -- t138 := binOp neq 49 t133 t137 49
    refine QL.nil fun w18 hx18 => ?_
    have hz18 := hx18.size
    have hE := hE.thenExt hx18
    refine hK48 _ _ ?_; try clear hK48 K48
    first | refine CW.condD rfl (fun ht49 => ?_) (fun ht49 => ?_) | refine CW.condND rfl (fun ht49 => ?_) (fun ht49 => ?_) | refine CW.condN rfl (fun ht49 => ?_) (fun ht49 => ?_) | refine CW.cond rfl (fun ht49 => ?_) (fun ht49 => ?_)
    · -- then
      refine CW.seq fun K50 hK50 => ?_
      refine CW.region ?_   -- region 33
      refine WL.val (Y.assign rfl) (by decide) ?_   -- t4 := assign c(false)
      refine WL.nil ?_
      refine hK50 _ _ ?_; try clear hK50 K50
      refine CW.ret ⟨_, rfl, ?_⟩
      exact absurd rfl (by assumption)
    -- else
    refine CW.skip ?_
    refine hK46 _ _ ?_; try clear hK46 K46
    refine CW.region ?_   -- region 34
    refine WL.val (Y.add rfl rfl ⟨by omega, by omega⟩) (by decide) ?_   -- t139 := binOp add 3 t127 c(1:i64) 3
    refine WL.val (Y.move rfl) (by decide) ?_   -- t127 := move t139
    refine WL.nil ?_
    exact ⟨x + 1, (by show am - (x + 1) < am - x; omega), (by repeat (first | exact Fr.le.nil | refine Fr.le.cons rfl ?_)), (by show x + 1 ≤ am; omega), hL4.thenExt hx18⟩
  -- else
  refine CW.exit ?_   -- exit 6
  refine hK41 _ _ ?_; try clear hK41 K41
  refine CW.seq fun K51 hK51 => ?_
  refine CW.region ?_   -- region 35
  refine WL.val (Y.assign rfl) (by decide) ?_   -- t4 := assign c(true)
  refine WL.nil ?_
  refine hK51 _ _ ?_; try clear hK51 K51
  refine CW.ret ⟨_, rfl, ?_⟩
  exact ⟨rfl, hE⟩
end Go.Proofs.Ytffkmlkdlhkkmaa
