/- FugueApart, walked. Condition: no run is longer than 1048576 bytes. -/
import Derived.Test.YtffkmlkdlhkkmaaFg
import Derived.Test.YtffkmlkdlhkkmaaEl
set_option linter.unusedSimpArgs false
set_option linter.unusedVariables false
namespace Go.Fw
theorem Mem.run0 {w : World} {a : Addr} {n m : Int} {s t : List UInt8} (h : Mem w a (runC n s ++ runC m t)) : Mem w (a.add (0 * 2)) (runC n s) := h.sub 0 fun j v hj => by
  rw [Nat.zero_add, List.getElem?_append_left (List.getElem?_eq_some_iff.1 hj).1]; exact hj
theorem Mem.run1 {w : World} {a : Addr} {n m : Int} {s t : List UInt8} (h : Mem w a (runC n s ++ runC m t)) : Mem w (a.add (1 * 2)) (runC m t) := h.sub 2 fun j v hj => by
  rw [List.getElem?_append_right (by simp [runC])]; simpa [runC] using hj
end Go.Fw
namespace Go.Proofs.Ytffkmlkdlhkkmaa
open Go.RowKit Go.Fw Go.Fu Go.Pl
theorem sz0_recensionlaw08Run : (Try.prog.info? TRun).map (·.size) = some 2 := by kernel_rfl

set_option maxRecDepth 100000 in
set_option maxHeartbeats 4000000 in
theorem apart_any (u : Value) (l : List CmV) (i0 i1 : Dig) (n0 n1 : Int) (s0 s1 : List UInt8) (w : World) (hl : Cms w u l) (hs0 : s0.length ≤ 1048576) (hs1 : s1.length ≤ 1048576) : Calls Try.prog 9 #[u, .agg (digC i0 ++ digC i1).toArray, .agg (runC n0 s0 ++ runC n1 s1).toArray] w (Ret fun v w' => v = .bool true ∧ Ext w w') := by
  obtain ⟨A, m, c, rfl, hm, hmc, hcm, _⟩ := _root_.id hl.sl
  unfold maxLen at hcm
  refine calls_of_CW 147 [6] [(0, .slice A m c), (1, .agg (digC i0 ++ digC i1).toArray), (2, .agg (runC n0 s0 ++ runC n1 s1).toArray)] Try.func9 rfl rfl rfl (by simp) args3 ?_
  have hE : Ext w w := Chg.refl
  refine CW.seq fun K1 hK1 => ?_
  refine CW.region ?_   -- region 0
  refine WL.box rfl rfl (by decide) fun g4 w1 hx1 hg4 hB4 => ?_   -- t4 := box 66 t1
  have hlt4 := hB4.lt; have hz1 := hx1.size
  have hM4 := hB4.mem; have hz1 := hx1.size; have hE := hE.thenExt hx1
  refine WL.box rfl rfl (by decide) fun g5 w2 hx2 hg5 hB5 => ?_   -- t5 := box 76 t2
  have hlt5 := hB5.lt; have hz2 := hx2.size
  have hM5 := hB5.mem; have hz2 := hx2.size; have hE := hE.thenExt hx2; have hB4 := hB4.ext hx2
  refine WL.val (Y.assign rfl) (by decide) ?_   -- t6 := assign c(false)
  refine WL.nil ?_
  refine hK1 _ _ ?_; try clear hK1 K1
  refine CW.seq fun K2 hK2 => ?_
  refine CW.region ?_   -- region 1
  refine WL.val (Y.move rfl) (by decide) ?_   -- t21 := move t0
  refine WL.call Try.func11 rfl rfl rfl (grown_any _ l _ (hl.ext hE)) (by simp) ?_; rintro v22 w3 hR3   -- t22 := call F11(t21) : 22
  obtain ⟨g, rb, ra, ns, gr, rs, av, ev_, L, T, rfl, hA⟩ := hR3
  have hz3 := hA.ext.size
  have hE := hE.thenExt hA.ext
  have hB4 := hB4.ext hA.ext
  have hB5 := hB5.ext hA.ext
  have hT3 := hA.ft
  have hfe := hA.fe
  have hok := hA.ok
  have hG : Fu.Good (Fw.els ns) := by rw [hfe]; exact hok.good
  have hel : (Fw.els ns).length = ns.length := List.length_map _
  have hn5 : ns.length ≤ 400001 := by rw [← hel, hfe]; exact hok.few
  have hlv : (seenE T.e).length = liveN ns := by rw [← hfe]; exact hG.seen_length
  have hln : liveN ns ≤ ns.length := by
    have := List.countP_le_length (p := fun x : El => !x.gone) (l := Fw.els ns)
    rwa [hel] at this
  have hFl : ∀ q, Fp g rb ra ns q → w2.heap.size ≤ q ∧ q < w3.heap.size := fun q hq => ⟨hA.fnew q hq, hT3.lt hq⟩
  refine WL.val (Y.move rfl) (by decide) ?_   -- t20 := move t22
  refine WL.val (Y.extract rfl rfl) (by decide) ?_   -- t23 := extract t20 0
  refine WL.val (Y.extract rfl rfl) (by decide) ?_   -- t24 := extract t20 1
  refine WL.val (Y.extract rfl rfl) (by decide) ?_   -- t25 := extract t20 2
  refine WL.val (Y.assign rfl) (by decide) ?_   -- t7 := assign t23
  refine WL.val (Y.assign rfl) (by decide) ?_   -- t8 := assign t24
  refine WL.val (Y.assign rfl) (by decide) ?_   -- t9 := assign t25
  refine WL.nil ?_
  refine hK2 _ _ ?_; try clear hK2 K2
  refine CW.seq fun K3 hK3 => ?_
  refine CW.seq_testE 38 (i0 = i1) ?_ ?_
  · refine CW.region ?_
    refine WL.val (Y.move rfl) (by decide) ?_   -- t26 := move t9
    refine WL.val (Y.not rfl) (by decide) ?_   -- t27 := unOp not 4 t26
    refine WL.val (Y.move rfl) (by decide) ?_   -- t28 := move t27
    first | refine WL.casesD (d := 28) rfl (fun hg28 => ?_) (fun hg28 => ?_) | refine WL.casesND (d := 28) rfl (fun hg28 => ?_) (fun hg28 => ?_) | refine WL.cases (d := 28) rfl (fun hg28 => ?_) (fun hg28 => ?_)
    · -- t28 = T
      refine WL.goff rfl rfl (by decide) ?_   -- t29 := call F12() :  [if 2=false]
      refine WL.goff rfl rfl (by decide) ?_   -- t30 := unOp not 4 t29 [if 2=false]
      refine WL.val (Y.pick rfl rfl) (by decide) ?_   -- t31 := pick t28 c(true) t30
      refine WL.val (Y.move rfl) (by decide) ?_   -- t32 := move t31
      refine WL.goff rfl rfl (by decide) ?_   -- t33 := indexAddr 66 t4 c(0:i64) [if 6=false]
      refine WL.goff rfl rfl (by decide) ?_   -- t34 := load 24 t33 [if 6=false]
      refine WL.goff rfl rfl (by decide) ?_   -- t35 := indexAddr 66 t4 c(1:i64) [if 6=false]
      refine WL.goff rfl rfl (by decide) ?_   -- t36 := load 24 t35 [if 6=false]
      refine WL.goff rfl rfl (by decide) ?_   -- t37 := binOp eql 24 t34 t36 24 [if 6=false]
      refine WL.val (Y.pick rfl rfl) (by decide) ?_   -- t38 := pick t32 c(true) t37
      refine WL.nil ⟨⟨_, rfl, ?_⟩, Chg.refl, (by repeat (first | exact Fr.le.refl | refine Fr.le.push rfl ?_))⟩
      first | (simp only [*, Int.natCast_inj, Bool.not_eq_true', decide_eq_false_iff_not, decide_eq_true_eq, not_true_eq_false, not_false_eq_true, true_and, false_and, and_true, and_false, false_or, or_false, true_or, or_true, iff_true, true_iff, iff_false, false_iff]; done) | (simp_all; done) | (refine congrArg Value.bool (Bool.eq_iff_iff.2 ?_); simp_all; done) | (simp_all; omega)
    · -- t28 = F
      refine WL.gcall rfl rfl Try.func12 rfl rfl rfl (alive_any _) (by decide) ?_; rintro v w4 ⟨rfl, hx4⟩; have hz4 := hx4.size; have hE := hE.thenExt hx4; have hB4 := hB4.ext hx4; have hB5 := hB5.ext hx4   -- t29 := call F12() :  [if 2=false]
      refine WL.gval rfl rfl (Y.not rfl) (by decide) ?_   -- t30 := unOp not 4 t29 [if 2=false]
      refine WL.val (Y.pick rfl rfl) (by decide) ?_   -- t31 := pick t28 c(true) t30
      refine WL.val (Y.move rfl) (by decide) ?_   -- t32 := move t31
      first | refine WL.casesD (d := 32) rfl (fun hg32 => ?_) (fun hg32 => ?_) | refine WL.casesND (d := 32) rfl (fun hg32 => ?_) (fun hg32 => ?_) | refine WL.cases (d := 32) rfl (fun hg32 => ?_) (fun hg32 => ?_)
      · -- t32 = T
        refine WL.goff rfl rfl (by decide) ?_   -- t33 := indexAddr 66 t4 c(0:i64) [if 6=false]
        refine WL.goff rfl rfl (by decide) ?_   -- t34 := load 24 t33 [if 6=false]
        refine WL.goff rfl rfl (by decide) ?_   -- t35 := indexAddr 66 t4 c(1:i64) [if 6=false]
        refine WL.goff rfl rfl (by decide) ?_   -- t36 := load 24 t35 [if 6=false]
        refine WL.goff rfl rfl (by decide) ?_   -- t37 := binOp eql 24 t34 t36 24 [if 6=false]
        refine WL.val (Y.pick rfl rfl) (by decide) ?_   -- t38 := pick t32 c(true) t37
        refine WL.nil ⟨⟨_, rfl, ?_⟩, hx4, (by repeat (first | exact Fr.le.refl | refine Fr.le.push rfl ?_))⟩
        first | (simp only [*, Int.natCast_inj, Bool.not_eq_true', decide_eq_false_iff_not, decide_eq_true_eq, not_true_eq_false, not_false_eq_true, true_and, false_and, and_true, and_false, false_or, or_false, true_or, or_true, iff_true, true_iff, iff_false, false_iff]; done) | (simp_all; done) | (refine congrArg Value.bool (Bool.eq_iff_iff.2 ?_); simp_all; done) | (simp_all; omega)
      · -- t32 = F
        refine WL.gval rfl rfl (Y.indexAddrAN (i := 0) Try.underlying66 rfl rfl sz0_apiDigest (by decide)) (by decide) ?_   -- t33 := indexAddr 66 t4 c(0:i64) [if 6=false]
        refine WL.gval rfl rfl (Y.load Try.underlying24 rfl hB4.mem.two0 (sz_apiDigest _) rfl) (by decide) ?_   -- t34 := load 24 t33 [if 6=false]
        refine WL.gval rfl rfl (Y.indexAddrAN (i := 1) Try.underlying66 rfl rfl sz0_apiDigest (by decide)) (by decide) ?_   -- t35 := indexAddr 66 t4 c(1:i64) [if 6=false]
        refine WL.gval rfl rfl (Y.load Try.underlying24 rfl hB4.mem.two1 (sz_apiDigest _) rfl) (by decide) ?_   -- t36 := load 24 t35 [if 6=false]
        refine WL.gval rfl rfl (Y.eql_apiDigest rfl rfl) (by decide) ?_   -- t37 := binOp eql 24 t34 t36 24 [if 6=false]
        refine WL.val (Y.pick rfl rfl) (by decide) ?_   -- t38 := pick t32 c(true) t37
        refine WL.nil ⟨⟨_, rfl, ?_⟩, hx4, (by repeat (first | exact Fr.le.refl | refine Fr.le.push rfl ?_))⟩
        first | (simp only [*, Int.natCast_inj, Bool.not_eq_true', decide_eq_false_iff_not, decide_eq_true_eq, not_true_eq_false, not_false_eq_true, true_and, false_and, and_true, and_false, false_or, or_false, true_or, or_true, iff_true, true_iff, iff_false, false_iff]; done) | (simp_all; done) | (refine congrArg Value.bool (Bool.eq_iff_iff.2 ?_); simp_all; done) | (simp_all; omega)
  intro w5 hx5; have hz5 := hx5.size; have hE := hE.thenExt hx5; have hB4 := hB4.ext hx5; have hB5 := hB5.ext hx5
  first | refine CW.condD rfl (fun ht4 => ?_) (fun ht4 => ?_) | refine CW.condND rfl (fun ht4 => ?_) (fun ht4 => ?_) | refine CW.condN rfl (fun ht4 => ?_) (fun ht4 => ?_) | refine CW.cond rfl (fun ht4 => ?_) (fun ht4 => ?_)
  · -- then
    refine CW.seq fun K5 hK5 => ?_
    refine CW.region ?_   -- region 3
    refine WL.val (Y.move rfl) (by decide) ?_   -- t39 := move t9
    refine WL.val (Y.move rfl) (by decide) ?_   -- t40 := move t39
    first | refine WL.casesD (d := 40) rfl (fun hg40 => ?_) (fun hg40 => ?_) | refine WL.casesND (d := 40) rfl (fun hg40 => ?_) (fun hg40 => ?_) | refine WL.cases (d := 40) rfl (fun hg40 => ?_) (fun hg40 => ?_)
    · -- t40 = T
      refine WL.gcall rfl rfl Try.func12 rfl rfl rfl (alive_any _) (by decide) ?_; rintro v w6 ⟨rfl, hx6⟩; have hz6 := hx6.size; have hE := hE.thenExt hx6; have hB4 := hB4.ext hx6; have hB5 := hB5.ext hx6   -- t41 := call F12() :  [if 1=true]
      refine WL.val (Y.pick rfl rfl) (by decide) ?_   -- t42 := pick t40 t41 c(false)
      refine WL.val (Y.assign rfl) (by decide) ?_   -- t6 := assign t42
      refine WL.nil ?_
      refine hK5 _ _ ?_; try clear hK5 K5
      refine CW.ret ⟨_, rfl, ?_⟩
      exact ⟨rfl, hE⟩
    · -- t40 = F
      refine WL.goff rfl rfl (by decide) ?_   -- t41 := call F12() :  [if 1=true]
      refine WL.val (Y.pick rfl rfl) (by decide) ?_   -- t42 := pick t40 t41 c(false)
      refine WL.val (Y.assign rfl) (by decide) ?_   -- t6 := assign t42
      refine WL.nil ?_
      refine hK5 _ _ ?_; try clear hK5 K5
      refine CW.ret ⟨_, rfl, ?_⟩
      exact absurd (by assumption : true = false) (by decide)
  -- else
  refine CW.skip ?_
  refine hK3 _ _ ?_; try clear hK3 K3
  refine CW.seq fun K6 hK6 => ?_
  obtain ⟨k, hk, hkp⟩ := placeI_le n0 (liveN ns)
  have htl : (textE T.e).length = liveN ns := by rw [textE_length, hlv]
  have hgo : (gapE (Fw.els ns) k).2.2 = true := by rw [hfe, gapE, if_neg (by omega)]
  have hi01 : i0 ≠ i1 := by assumption
  refine CW.quiet (fun wq => Ext w5 wq) (by kernel_rfl) (by kernel_rfl) Chg.drew ?_
  refine QL.val (fun wq hq => Y.indexAddrAN (i := 0) Try.underlying76 rfl rfl sz0_recensionlaw08Run (by decide)) (by decide) ?_   -- t43 := indexAddr 76 t5 c(0:i64)
  refine QL.val (fun wq hq => Y.fieldAddr fo_recensionlaw08Run0 rfl) (by decide) ?_   -- t44 := fieldAddr 26 t43 0
  refine QL.val (fun wq hq => Y.load1 Try.underlying3 rfl (((hB5.ext hq).mem.run0).recensionlaw08Run0) rfl) (by decide) ?_   -- t45 := load 3 t44
  refine QL.val (fun wq hq => Y.move rfl) (by decide) ?_   -- t46 := move t7
  refine QL.call Try.func14 rfl rfl rfl (fun wq hq => ret_ext (flen_any g rb ra _ ns _ ((hT3.ext hx5).ext hq)) hq) (by simp) ?_   -- t47 := call F14(t46) : 27
  refine QL.call Try.func13 rfl rfl rfl (fun wq hq => ret_ext (place_any n0 (liveN ns) _ (by omega)) hq) (by simp) ?_   -- t48 := call F13(t45, t47) : 3,3
  rw [hkp]
  refine QL.val (fun wq hq => Y.assign rfl) (by decide) ?_   -- t10 := assign t48
  refine QL.nil fun w7 hx7 => ?_
  have hz7 := hx7.size
  have hE := hE.thenExt hx7
  have hB4 := hB4.ext hx7
  have hB5 := hB5.ext hx7
  refine hK6 _ _ ?_; try clear hK6 K6
  refine CW.seq fun K7 hK7 => ?_
  refine CW.region ?_   -- region 5
  refine WL.val (Y.move rfl) (by decide) ?_   -- t49 := move t7
  refine WL.call Try.func15 rfl rfl rfl ((by have h9 := ftext_any g rb ra _ ns _ ((hT3.ext hx5).ext hx7) hG hn5; rw [hfe] at h9; exact h9)) (by simp) ?_; rintro v w8 ⟨rfl, hx8⟩; have hz8 := hx8.size; have hE := hE.thenExt hx8; have hB4 := hB4.ext hx8; have hB5 := hB5.ext hx8   -- t50 := call F15(t49) : 27
  refine WL.val (Y.assign rfl) (by decide) ?_   -- t11 := assign t50
  refine WL.nil ?_
  refine hK7 _ _ ?_; try clear hK7 K7
  refine CW.seq fun K8 hK8 => ?_
  refine CW.region ?_   -- region 6
  refine WL.val (Y.move rfl) (by decide) ?_   -- t52 := move t7
  refine WL.val (Y.move rfl) (by decide) ?_   -- t53 := move t10
  refine WL.val (Y.indexAddrAN (i := 0) Try.underlying76 rfl rfl sz0_recensionlaw08Run (by decide)) (by decide) ?_   -- t54 := indexAddr 76 t5 c(0:i64)
  refine WL.val (Y.fieldAddr fo_recensionlaw08Run1 rfl) (by decide) ?_   -- t55 := fieldAddr 26 t54 1
  refine WL.val (Y.load1 Try.underlying9 rfl (hB5.mem.run0.recensionlaw08Run1) rfl) (by decide) ?_   -- t56 := load 9 t55
  refine WL.call Try.func16 rfl rfl rfl (run_any g rb ra _ ns (k : Int) s0 _ (((hT3.ext hx5).ext hx7).ext hx8) hG hn5 hs0) (by simp) ?_; rintro v57 w9 hR9   -- t57 := call F16(t52, t53, t56) : 27,3,9
  obtain ⟨lv0, rfl, hO0, hf0, hx9⟩ := hR9
  have hz9 := hx9.size
  have hE := hE.thenExt hx9
  have hB4 := hB4.ext hx9
  have hB5 := hB5.ext hx9
  have hT9 := ((((hT3.ext hx5).ext hx7).ext hx8).ext hx9)
  rw [hgo]
  rw [hfe] at hO0
  have hl0 := hO0.lt
  refine WL.val (Y.move rfl) (by decide) ?_   -- t51 := move t57
  refine WL.val (Y.extract rfl rfl) (by decide) ?_   -- t58 := extract t51 0
  refine WL.val (Y.extract rfl rfl) (by decide) ?_   -- t59 := extract t51 1
  refine WL.val (Y.assign rfl) (by decide) ?_   -- t12 := assign t58
  refine WL.val (Y.assign rfl) (by decide) ?_   -- t13 := assign t59
  refine WL.nil ?_
  refine hK8 _ _ ?_; try clear hK8 K8
  refine CW.seq fun K9 hK9 => ?_
  refine CW.region ?_   -- region 7
  refine WL.val (Y.move rfl) (by decide) ?_   -- t61 := move t7
  refine WL.val (Y.move rfl) (by decide) ?_   -- t62 := move t10
  refine WL.val (Y.indexAddrAN (i := 1) Try.underlying76 rfl rfl sz0_recensionlaw08Run (by decide)) (by decide) ?_   -- t63 := indexAddr 76 t5 c(1:i64)
  refine WL.val (Y.fieldAddr fo_recensionlaw08Run1 rfl) (by decide) ?_   -- t64 := fieldAddr 26 t63 1
  refine WL.val (Y.load1 Try.underlying9 rfl (hB5.mem.run1.recensionlaw08Run1) rfl) (by decide) ?_   -- t65 := load 9 t64
  refine WL.call Try.func16 rfl rfl rfl (run_any g rb ra _ ns (k : Int) s1 _ hT9 hG hn5 hs1) (by simp) ?_; rintro v66 w10 hR10   -- t66 := call F16(t61, t62, t65) : 27,3,9
  obtain ⟨lv1, rfl, hO1, hf1, hx10⟩ := hR10
  have hz10 := hx10.size
  have hE := hE.thenExt hx10
  have hB4 := hB4.ext hx10
  have hB5 := hB5.ext hx10
  have hO0 := hO0.ext hx10
  have hT10 := hT9.ext hx10
  rw [hgo]
  rw [hfe] at hO1
  have hl1 := hO1.lt
  refine WL.val (Y.move rfl) (by decide) ?_   -- t60 := move t66
  refine WL.val (Y.extract rfl rfl) (by decide) ?_   -- t67 := extract t60 0
  refine WL.val (Y.extract rfl rfl) (by decide) ?_   -- t68 := extract t60 1
  refine WL.val (Y.assign rfl) (by decide) ?_   -- t14 := assign t67
  refine WL.val (Y.assign rfl) (by decide) ?_   -- t15 := assign t68
  refine WL.nil ?_
  refine hK9 _ _ ?_; try clear hK9 K9
  refine CW.seq fun K10 hK10 => ?_
  refine CW.region ?_   -- region 8
  refine WL.val (Y.move rfl) (by decide) ?_   -- t69 := move t7
  refine WL.call Try.func29 rfl rfl rfl (fcopy_any g rb ra _ ns _ hT10 hG hn5) (by simp) ?_; rintro v70 w11 hR11   -- t70 := call F29(t69) : 27
  obtain ⟨g2, rb2, ra2, ns2, rfl, hT2, he2, hn2, hx11⟩ := hR11
  have hz11 := hx11.size
  have hE := hE.thenExt hx11
  have hB4 := hB4.ext hx11
  have hB5 := hB5.ext hx11
  have hO0 := hO0.ext hx11
  have hO1 := hO1.ext hx11
  have hT11 := hT10.ext hx11
  have hF2 : ∀ q, Fp g2 rb2 ra2 ns2 q → w10.heap.size ≤ q ∧ q < w11.heap.size := fun q hq => ⟨hn2 q hq, hT2.lt hq⟩
  rw [hfe] at he2
  refine WL.val (Y.assign rfl) (by decide) ?_   -- t16 := assign t70
  refine WL.nil ?_
  refine hK10 _ _ ?_; try clear hK10 K10
  refine CW.seq fun K11 hK11 => ?_
  refine CW.seq_test 80 (False) ?_ ?_
  · refine CW.region ?_
    refine WL.val (Y.move rfl) (by decide) ?_   -- t71 := move t13
    refine WL.val (Y.not rfl) (by decide) ?_   -- t72 := unOp not 4 t71
    refine WL.val (Y.move rfl) (by decide) ?_   -- t73 := move t72
    first | refine WL.casesD (d := 73) rfl (fun hg73 => ?_) (fun hg73 => ?_) | refine WL.casesND (d := 73) rfl (fun hg73 => ?_) (fun hg73 => ?_) | refine WL.cases (d := 73) rfl (fun hg73 => ?_) (fun hg73 => ?_)
    · -- t73 = T
      refine WL.goff rfl rfl (by decide) ?_   -- t74 := move t15 [if 2=false]
      refine WL.goff rfl rfl (by decide) ?_   -- t75 := unOp not 4 t74 [if 2=false]
      refine WL.val (Y.pick rfl rfl) (by decide) ?_   -- t76 := pick t73 c(true) t75
      refine WL.val (Y.move rfl) (by decide) ?_   -- t77 := move t76
      refine WL.goff rfl rfl (by decide) ?_   -- t78 := move t16 [if 6=false]
      refine WL.goff rfl rfl (by decide) ?_   -- t79 := binOp eql 27 t78 c(['Go.Value.pointer', 'none']) 27 [if 6=false]
      refine WL.val (Y.pick rfl rfl) (by decide) ?_   -- t80 := pick t77 c(true) t79
      refine WL.nil ⟨⟨_, rfl, ?_⟩, rfl, (by repeat (first | exact Fr.le.refl | refine Fr.le.push rfl ?_))⟩
      first | (simp only [*, Int.natCast_inj, Bool.not_eq_true', decide_eq_false_iff_not, decide_eq_true_eq, not_true_eq_false, not_false_eq_true, true_and, false_and, and_true, and_false, false_or, or_false, true_or, or_true, iff_true, true_iff, iff_false, false_iff]; done) | (simp_all; done) | (refine congrArg Value.bool (Bool.eq_iff_iff.2 ?_); simp_all; done) | (simp_all; omega)
    · -- t73 = F
      refine WL.gval rfl rfl (Y.move rfl) (by decide) ?_   -- t74 := move t15 [if 2=false]
      refine WL.gval rfl rfl (Y.not rfl) (by decide) ?_   -- t75 := unOp not 4 t74 [if 2=false]
      refine WL.val (Y.pick rfl rfl) (by decide) ?_   -- t76 := pick t73 c(true) t75
      refine WL.val (Y.move rfl) (by decide) ?_   -- t77 := move t76
      first | refine WL.casesD (d := 77) rfl (fun hg77 => ?_) (fun hg77 => ?_) | refine WL.casesND (d := 77) rfl (fun hg77 => ?_) (fun hg77 => ?_) | refine WL.cases (d := 77) rfl (fun hg77 => ?_) (fun hg77 => ?_)
      · -- t77 = T
        refine WL.goff rfl rfl (by decide) ?_   -- t78 := move t16 [if 6=false]
        refine WL.goff rfl rfl (by decide) ?_   -- t79 := binOp eql 27 t78 c(['Go.Value.pointer', 'none']) 27 [if 6=false]
        refine WL.val (Y.pick rfl rfl) (by decide) ?_   -- t80 := pick t77 c(true) t79
        refine WL.nil ⟨⟨_, rfl, ?_⟩, rfl, (by repeat (first | exact Fr.le.refl | refine Fr.le.push rfl ?_))⟩
        first | (simp only [*, Int.natCast_inj, Bool.not_eq_true', decide_eq_false_iff_not, decide_eq_true_eq, not_true_eq_false, not_false_eq_true, true_and, false_and, and_true, and_false, false_or, or_false, true_or, or_true, iff_true, true_iff, iff_false, false_iff]; done) | (simp_all; done) | (refine congrArg Value.bool (Bool.eq_iff_iff.2 ?_); simp_all; done) | (simp_all; omega)
      · -- t77 = F
        refine WL.gval rfl rfl (Y.move rfl) (by decide) ?_   -- t78 := move t16 [if 6=false]
        refine WL.gval rfl rfl (Y.eql_fugueTree rfl rfl) (by decide) ?_   -- t79 := binOp eql 27 t78 c(['Go.Value.pointer', 'none']) 27 [if 6=false]
        refine WL.val (Y.pick rfl rfl) (by decide) ?_   -- t80 := pick t77 c(true) t79
        refine WL.nil ⟨⟨_, rfl, ?_⟩, rfl, (by repeat (first | exact Fr.le.refl | refine Fr.le.push rfl ?_))⟩
        first | (simp only [*, Int.natCast_inj, Bool.not_eq_true', decide_eq_false_iff_not, decide_eq_true_eq, not_true_eq_false, not_false_eq_true, true_and, false_and, and_true, and_false, false_or, or_false, true_or, or_true, iff_true, true_iff, iff_false, false_iff]; done) | (simp_all; done) | (refine congrArg Value.bool (Bool.eq_iff_iff.2 ?_); simp_all; done) | (simp_all; omega)
  first | refine CW.condD rfl (fun ht12 => ?_) (fun ht12 => ?_) | refine CW.condND rfl (fun ht12 => ?_) (fun ht12 => ?_) | refine CW.condN rfl (fun ht12 => ?_) (fun ht12 => ?_) | refine CW.cond rfl (fun ht12 => ?_) (fun ht12 => ?_)
  · -- then
    refine CW.seq fun K13 hK13 => ?_
    refine CW.region ?_   -- region 10
    refine WL.val (Y.assign rfl) (by decide) ?_   -- t6 := assign c(false)
    refine WL.nil ?_
    refine hK13 _ _ ?_; try clear hK13 K13
    refine CW.ret ⟨_, rfl, ?_⟩
    exact False.elim (by assumption)
  -- else
  refine CW.skip ?_
  refine hK11 _ _ ?_; try clear hK11 K11
  refine CW.seq fun K14 hK14 => ?_
  refine CW.seq_to (X := Bool × List Nn) (fun y => [(4, .pointer (some ⟨g4, 0, none⟩)), (5, .pointer (some ⟨g5, 0, none⟩)), (7, .pointer (some ⟨g, 0, none⟩)), (10, .int .i64 (k : Int)), (11, .string (bs (textE T.e))), (12, lv0), (14, lv1), (16, .pointer (some ⟨g2, 0, none⟩)), (94, .bool y.1)]) (fun y w0 => Ext w w0 ∧ (y.1 = false → wrongC T i0 (runOps (gapE T.e k).1 (gapE T.e k).2.1 s0) = 0 ∧ wrongC (addT T i0 (runOps (gapE T.e k).1 (gapE T.e k).2.1 s0)) i1 (runOps (gapE T.e k).1 (gapE T.e k).2.1 s1) = 0 ∧ FtAt w0 g rb ra (addT (addT T i0 (runOps (gapE T.e k).1 (gapE T.e k).2.1 s0)) i1 (runOps (gapE T.e k).1 (gapE T.e k).2.1 s1)).ad y.2 ∧ Fw.els y.2 = (addT (addT T i0 (runOps (gapE T.e k).1 (gapE T.e k).2.1 s0)) i1 (runOps (gapE T.e k).1 (gapE T.e k).2.1 s1)).e ∧ FtAt w0 g2 rb2 ra2 T.ad ns2 ∧ (∀ q, Fp g rb ra y.2 q → ¬ Fp g2 rb2 ra2 ns2 q ∧ q < w0.heap.size) ∧ Blk w0 g4 66 (digC i0 ++ digC i1) ∧ Blk w0 g5 76 (runC n0 s0 ++ runC n1 s1) ∧ Own w0 62 37 lv0 (((runOps (gapE T.e k).1 (gapE T.e k).2.1 s0).map opC).flatten) ∧ Own w0 62 37 lv1 (((runOps (gapE T.e k).1 (gapE T.e k).2.1 s1).map opC).flatten) ∧ w11.heap.size ≤ w0.heap.size)) ?_ ?_
  · refine CW.region ?_
    refine WL.val (Y.move rfl) (by decide) ?_   -- t81 := move t7
    refine WL.val (Y.indexAddrAN (i := 0) Try.underlying66 rfl rfl sz0_apiDigest (by decide)) (by decide) ?_   -- t82 := indexAddr 66 t4 c(0:i64)
    refine WL.val (Y.load Try.underlying24 rfl hB4.mem.two0 (sz_apiDigest _) rfl) (by decide) ?_   -- t83 := load 24 t82
    refine WL.val (Y.move rfl) (by decide) ?_   -- t84 := move t12
    refine WL.call Try.func17 rfl rfl rfl (fadd_any g rb ra T.ad ns i0 _ (runOps (gapE T.e k).1 (gapE T.e k).2.1 s0) L _ hT11 (by rw [hfe]; exact hok) (hO0.sl opC_length (by decide)) (fun _ q hq => ⟨hO0.lt q hq, fun h => by have := (hFl q h).2; have := hf0 q hq; omega⟩)) (by simp) ?_; rintro v85 w12 hR12   -- t85 := call F17(t81, t83, t84) : 27,24,35
    obtain ⟨rfl, ns3, hT12, he12, hc12, hf12, _⟩ := hR12
    rw [hfe] at hT12 he12
    rw [show wrongC ⟨T.ad, Fw.els ns⟩ i0 (runOps (gapE T.e k).1 (gapE T.e k).2.1 s0) = wrongC T i0 (runOps (gapE T.e k).1 (gapE T.e k).2.1 s0) by rw [hfe]]
    have hz12 := hc12.size
    have hE := hE.step hc12 (fun q hq => by have := (hFl q hq).1; omega)
    have hB4 := hB4.chg hc12 (fun h => by have := hFl _ h; omega)
    have hB5 := hB5.chg hc12 (fun h => by have := hFl _ h; omega)
    have hO0 := hO0.chg hc12 (fun q hq h => by have := hFl _ h; have := hf0 q hq; have := hl0 q hq; omega)
    have hO1 := hO1.chg hc12 (fun q hq h => by have := hFl _ h; have := hf1 q hq; have := hl1 q hq; omega)
    have hT2 := hT2.chg hc12 (fun q hq h => by have := (hF2 q hq).1; have := (hFl q h).2; omega)
    obtain ⟨L3, hok3, _⟩ := hok.addT i0 (runOps (gapE T.e k).1 (gapE T.e k).2.1 s0)
    have hTe : (⟨(addT T i0 (runOps (gapE T.e k).1 (gapE T.e k).2.1 s0)).ad, Fw.els ns3⟩ : Tr) = addT T i0 (runOps (gapE T.e k).1 (gapE T.e k).2.1 s0) := by rw [he12]
    refine WL.val (Y.neq rfl rfl) (by decide) ?_   -- t86 := binOp neq 38 t85 c(0:i64) 38
    refine WL.val (Y.move rfl) (by decide) ?_   -- t87 := move t86
    first | refine WL.casesD (d := 87) rfl (fun hg87 => ?_) (fun hg87 => ?_) | refine WL.casesND (d := 87) rfl (fun hg87 => ?_) (fun hg87 => ?_) | refine WL.cases (d := 87) rfl (fun hg87 => ?_) (fun hg87 => ?_)
    · -- t87 = T
      refine WL.goff rfl rfl (by decide) ?_   -- t88 := move t7 [if 6=false]
      refine WL.goff rfl rfl (by decide) ?_   -- t89 := indexAddr 66 t4 c(1:i64) [if 6=false]
      refine WL.goff rfl rfl (by decide) ?_   -- t90 := load 24 t89 [if 6=false]
      refine WL.goff rfl rfl (by decide) ?_   -- t91 := move t14 [if 6=false]
      refine WL.goff rfl rfl (by decide) ?_   -- t92 := call F17(t88, t90, t91) : 27,24,35 [if 6=false]
      refine WL.goff rfl rfl (by decide) ?_   -- t93 := binOp neq 38 t92 c(0:i64) 38 [if 6=false]
      refine WL.val (Y.pick rfl rfl) (by decide) ?_   -- t94 := pick t87 c(true) t93
      refine WL.nil ?_
      first | exact ⟨(decide (wrongC (addT T i0 (runOps (gapE T.e k).1 (gapE T.e k).2.1 s0)) i1 (runOps (gapE T.e k).1 (gapE T.e k).2.1 s1) ≠ 0), ns4), (by repeat (first | exact Fr.le.nil | refine Fr.le.cons rfl ?_)), hE, fun h => ⟨(by first | assumption | exact Decidable.not_not.1 (by assumption)), by simpa using h, hT13, he13, hT2, hd4, hB4, hB5, hO0, hO1, by omega⟩⟩ | exact ⟨(true, ns), (by repeat (first | exact Fr.le.nil | refine Fr.le.cons rfl ?_)), hE, fun h => by cases h⟩
    · -- t87 = F
      refine WL.gval rfl rfl (Y.move rfl) (by decide) ?_   -- t88 := move t7 [if 6=false]
      refine WL.gval rfl rfl (Y.indexAddrAN (i := 1) Try.underlying66 rfl rfl sz0_apiDigest (by decide)) (by decide) ?_   -- t89 := indexAddr 66 t4 c(1:i64) [if 6=false]
      refine WL.gval rfl rfl (Y.load Try.underlying24 rfl hB4.mem.two1 (sz_apiDigest _) rfl) (by decide) ?_   -- t90 := load 24 t89 [if 6=false]
      refine WL.gval rfl rfl (Y.move rfl) (by decide) ?_   -- t91 := move t14 [if 6=false]
      refine WL.gcall rfl rfl Try.func17 rfl rfl rfl (fadd_any g rb ra _ ns3 i1 _ (runOps (gapE T.e k).1 (gapE T.e k).2.1 s1) L3 _ hT12 (by rw [hTe]; exact hok3) (hO1.sl opC_length (by decide)) (fun _ q hq => ⟨hO1.lt q hq, fun h => by rcases hf12 q h with h | h; have := (hFl q h).2; have := hf1 q hq; omega; have := hl1 q hq; omega⟩)) (by decide) ?_; rintro v92 w13 hR13   -- t92 := call F17(t88, t90, t91) : 27,24,35 [if 6=false]
      obtain ⟨rfl, ns4, hT13, he13, hc13, hf13, _⟩ := hR13
      rw [hTe] at hT13 he13 ⊢
      have hz13 := hc13.size
      have hFm : ∀ q, Fp g rb ra ns3 q → (w2.heap.size ≤ q ∧ q < w3.heap.size) ∨ w11.heap.size ≤ q := fun q hq => by
        rcases hf12 q hq with h | h
        · exact .inl (hFl q h)
        · exact .inr h
      have hE := hE.step hc13 (fun q hq => by have := hFm q hq; omega)
      have hB4 := hB4.chg hc13 (fun h => by have := hFm _ h; omega)
      have hB5 := hB5.chg hc13 (fun h => by have := hFm _ h; omega)
      have hO0 := hO0.chg hc13 (fun q hq h => by have := hFm _ h; have := hf0 q hq; have := hl0 q hq; omega)
      have hO1 := hO1.chg hc13 (fun q hq h => by have := hFm _ h; have := hf1 q hq; have := hl1 q hq; omega)
      have hT2 := hT2.chg hc13 (fun q hq h => by have := hF2 q hq; have := hFm q h; omega)
      have hd4 : ∀ q, Fp g rb ra ns4 q → ¬ Fp g2 rb2 ra2 ns2 q ∧ q < w13.heap.size := fun q hq => ⟨fun h => by
        have := hF2 q h
        rcases hf13 q hq with h | h
        · have := hFm q h; omega
        · omega, hT13.lt hq⟩
      refine WL.gval rfl rfl (Y.neq rfl rfl) (by decide) ?_   -- t93 := binOp neq 38 t92 c(0:i64) 38 [if 6=false]
      refine WL.val (Y.pick rfl rfl) (by decide) ?_   -- t94 := pick t87 c(true) t93
      refine WL.nil ?_
      first | exact ⟨(decide (wrongC (addT T i0 (runOps (gapE T.e k).1 (gapE T.e k).2.1 s0)) i1 (runOps (gapE T.e k).1 (gapE T.e k).2.1 s1) ≠ 0), ns4), (by repeat (first | exact Fr.le.nil | refine Fr.le.cons rfl ?_)), hE, fun h => ⟨(by first | assumption | exact Decidable.not_not.1 (by assumption)), by simpa using h, hT13, he13, hT2, hd4, hB4, hB5, hO0, hO1, by omega⟩⟩ | exact ⟨(true, ns), (by repeat (first | exact Fr.le.nil | refine Fr.le.cons rfl ?_)), hE, fun h => by cases h⟩
  rintro ⟨y1, y2⟩ w14 ⟨hE, hj14⟩
  have hz14 := hE.size
  dsimp only at hj14 ⊢
  first | refine CW.condD rfl (fun ht15 => ?_) (fun ht15 => ?_) | refine CW.condND rfl (fun ht15 => ?_) (fun ht15 => ?_) | refine CW.condN rfl (fun ht15 => ?_) (fun ht15 => ?_) | refine CW.cond rfl (fun ht15 => ?_) (fun ht15 => ?_)
  · -- then
    refine CW.seq fun K16 hK16 => ?_
    refine CW.region ?_   -- region 12
    refine WL.val (Y.assign rfl) (by decide) ?_   -- t6 := assign c(true)
    refine WL.nil ?_
    refine hK16 _ _ ?_; try clear hK16 K16
    refine CW.ret ⟨_, rfl, ?_⟩
    exact ⟨rfl, hE⟩
  -- else
  refine CW.skip ?_
  refine hK14 _ _ ?_; try clear hK14 K14
  refine CW.seq fun K17 hK17 => ?_
  obtain ⟨hw0, hw1, hT4, he4, hT2, hF4, hB4, hB5, hO0, hO1, hzz⟩ := hj14 (by assumption)
  have hap := apart_text hok (n := k) (by omega) hi01 hw0 hw1
  obtain ⟨L3, hok3, _⟩ := hok.addT i0 (runOps (gapE T.e k).1 (gapE T.e k).2.1 s0)
  obtain ⟨L4, hok4, _⟩ := hok3.addT i1 (runOps (gapE T.e k).1 (gapE T.e k).2.1 s1)
  obtain ⟨L5, hok5, _⟩ := hok.addT i1 (runOps (gapE T.e k).1 (gapE T.e k).2.1 s1)
  obtain ⟨L6, hok6, _⟩ := hok5.addT i0 (runOps (gapE T.e k).1 (gapE T.e k).2.1 s0)
  have hG4 : Fu.Good (Fw.els y2) := by rw [he4]; exact hok4.good
  have hel4 : (Fw.els y2).length = y2.length := List.length_map _
  have hn4 : y2.length ≤ 400001 := by rw [← hel4, he4]; exact hok4.few
  refine CW.region ?_   -- region 13
  refine WL.val (Y.move rfl) (by decide) ?_   -- t95 := move t16
  refine WL.val (Y.indexAddrAN (i := 1) Try.underlying66 rfl rfl sz0_apiDigest (by decide)) (by decide) ?_   -- t96 := indexAddr 66 t4 c(1:i64)
  refine WL.val (Y.load Try.underlying24 rfl hB4.mem.two1 (sz_apiDigest _) rfl) (by decide) ?_   -- t97 := load 24 t96
  refine WL.val (Y.move rfl) (by decide) ?_   -- t98 := move t14
  refine WL.call Try.func17 rfl rfl rfl (fadd_any g2 rb2 ra2 T.ad ns2 i1 _ (runOps (gapE T.e k).1 (gapE T.e k).2.1 s1) L _ hT2 (by rw [he2]; exact hok) (hO1.sl opC_length (by decide)) (fun _ q hq => ⟨hO1.lt q hq, fun h => by have := hF2 q h; have := hl1 q hq; omega⟩)) (by simp) ?_; rintro v99 w15 hR15   -- t99 := call F17(t95, t97, t98) : 27,24,35
  obtain ⟨_, ns5, hT15, he15, hc15, hf15, _⟩ := hR15
  rw [he2] at hT15 he15
  have hz15 := hc15.size
  have hE := hE.step hc15 (fun q hq => by have := hF2 q hq; omega)
  have hB4 := hB4.chg hc15 (fun h => by have := hF2 _ h; omega)
  have hB5 := hB5.chg hc15 (fun h => by have := hF2 _ h; omega)
  have hO0 := hO0.chg hc15 (fun q hq h => by have := hF2 _ h; have := hf0 q hq; have := hl0 q hq; omega)
  have hO1 := hO1.chg hc15 (fun q hq h => by have := hF2 _ h; have := hf1 q hq; have := hl1 q hq; omega)
  have hT4 := hT4.chg hc15 (fun q hq h => (hF4 q hq).1 h)
  have hF5 : ∀ q, Fp g2 rb2 ra2 ns5 q → (w10.heap.size ≤ q ∧ q < w11.heap.size ∧ Fp g2 rb2 ra2 ns2 q) ∨ w14.heap.size ≤ q := fun q hq => by
    rcases hf15 q hq with h | h
    · exact .inl ⟨(hF2 q h).1, (hF2 q h).2, h⟩
    · exact .inr h
  have hTe5 : (⟨(addT T i1 (runOps (gapE T.e k).1 (gapE T.e k).2.1 s1)).ad, Fw.els ns5⟩ : Tr) = addT T i1 (runOps (gapE T.e k).1 (gapE T.e k).2.1 s1) := by rw [he15]
  refine WL.nil ?_
  refine hK17 _ _ ?_; try clear hK17 K17
  refine CW.seq fun K18 hK18 => ?_
  refine CW.region ?_   -- region 14
  refine WL.val (Y.move rfl) (by decide) ?_   -- t100 := move t16
  refine WL.val (Y.indexAddrAN (i := 0) Try.underlying66 rfl rfl sz0_apiDigest (by decide)) (by decide) ?_   -- t101 := indexAddr 66 t4 c(0:i64)
  refine WL.val (Y.load Try.underlying24 rfl hB4.mem.two0 (sz_apiDigest _) rfl) (by decide) ?_   -- t102 := load 24 t101
  refine WL.val (Y.move rfl) (by decide) ?_   -- t103 := move t12
  refine WL.call Try.func17 rfl rfl rfl (fadd_any g2 rb2 ra2 _ ns5 i0 _ (runOps (gapE T.e k).1 (gapE T.e k).2.1 s0) L5 _ hT15 (by rw [hTe5]; exact hok5) (hO0.sl opC_length (by decide)) (fun _ q hq => ⟨hO0.lt q hq, fun h => by have := hF5 q h; have := hl0 q hq; omega⟩)) (by simp) ?_; rintro v104 w16 hR16   -- t104 := call F17(t100, t102, t103) : 27,24,35
  obtain ⟨_, ns6, hT16, he16, hc16, hf16, _⟩ := hR16
  rw [hTe5] at hT16 he16
  have hz16 := hc16.size
  have hE := hE.step hc16 (fun q hq => by have := hF5 q hq; omega)
  have hB4 := hB4.chg hc16 (fun h => by have := hF5 _ h; omega)
  have hB5 := hB5.chg hc16 (fun h => by have := hF5 _ h; omega)
  have hO0 := hO0.chg hc16 (fun q hq h => by have := hF5 _ h; have := hf0 q hq; have := hl0 q hq; omega)
  have hO1 := hO1.chg hc16 (fun q hq h => by have := hF5 _ h; have := hf1 q hq; have := hl1 q hq; omega)
  have hT4 := hT4.chg hc16 (fun q hq h => by
    have h1 := hF4 q hq
    rcases hF5 q h with h2 | h2
    · exact h1.1 h2.2.2
    · omega)
  have hG6 : Fu.Good (Fw.els ns6) := by rw [he16]; exact hok6.good
  have hel6 : (Fw.els ns6).length = ns6.length := List.length_map _
  have hn6 : ns6.length ≤ 400001 := by rw [← hel6, he16]; exact hok6.few
  refine WL.nil ?_
  refine hK18 _ _ ?_; try clear hK18 K18
  refine CW.seq fun K19 hK19 => ?_
  refine CW.quiet (fun wq => Ext w16 wq) (by kernel_rfl) (by kernel_rfl) Chg.drew ?_
  refine QL.val (fun wq hq => Y.indexAddrAN (i := 0) Try.underlying76 rfl rfl sz0_recensionlaw08Run (by decide)) (by decide) ?_   -- t105 := indexAddr 76 t5 c(0:i64)
  refine QL.val (fun wq hq => Y.fieldAddr fo_recensionlaw08Run1 rfl) (by decide) ?_   -- t106 := fieldAddr 26 t105 1
  refine QL.val (fun wq hq => Y.load1 Try.underlying9 rfl (((hB5.ext hq).mem.run0).recensionlaw08Run1) rfl) (by decide) ?_   -- t107 := load 9 t106
  refine QL.val (fun wq hq => Y.indexAddrAN (i := 1) Try.underlying76 rfl rfl sz0_recensionlaw08Run (by decide)) (by decide) ?_   -- t108 := indexAddr 76 t5 c(1:i64)
  refine QL.val (fun wq hq => Y.fieldAddr fo_recensionlaw08Run1 rfl) (by decide) ?_   -- t109 := fieldAddr 26 t108 1
  refine QL.val (fun wq hq => Y.load1 Try.underlying9 rfl (((hB5.ext hq).mem.run1).recensionlaw08Run1) rfl) (by decide) ?_   -- t110 := load 9 t109
  refine QL.val (fun wq hq => Y.assign rfl) (by decide) ?_   -- t17 := assign t107
  refine QL.val (fun wq hq => Y.assign rfl) (by decide) ?_   -- t18 := assign t110
  refine QL.nil fun w17 hx17 => ?_
  have hz17 := hx17.size
  have hE := hE.thenExt hx17
  have hB4 := hB4.ext hx17
  have hB5 := hB5.ext hx17
  refine hK19 _ _ ?_; try clear hK19 K19
  refine CW.seq fun K20 hK20 => ?_
  refine CW.region ?_   -- region 16
  refine WL.val (Y.move rfl) (by decide) ?_   -- t111 := move t7
  refine WL.call Try.func15 rfl rfl rfl ((by have h9 := ftext_any g rb ra _ y2 _ (hT4.ext hx17) hG4 hn4; rw [he4] at h9; exact h9)) (by simp) ?_; rintro v w18 ⟨rfl, hx18⟩; have hz18 := hx18.size; have hE := hE.thenExt hx18; have hB4 := hB4.ext hx18; have hB5 := hB5.ext hx18   -- t112 := call F15(t111) : 27
  refine WL.val (Y.assign rfl) (by decide) ?_   -- t19 := assign t112
  refine WL.nil ?_
  refine hK20 _ _ ?_; try clear hK20 K20
  refine CW.seq fun K21 hK21 => ?_
  refine CW.quiet (fun wq => Ext w18 wq) (by kernel_rfl) (by kernel_rfl) Chg.drew ?_
  refine QL.val (fun wq hq => Y.move rfl) (by decide) ?_   -- t113 := move t19
  refine QL.val (fun wq hq => Y.move rfl) (by decide) ?_   -- t114 := move t11
  refine QL.val (fun wq hq => Y.move rfl) (by decide) ?_   -- t115 := move t10
  refine QL.val (fun wq hq => Y.strHead (j := k) Try.underlying9 rfl rfl (by omega) (by omega)) (by decide) ?_   -- t116 := slice 9 t114 none t115 none
  refine QL.val (fun wq hq => Y.move rfl) (by decide) ?_   -- t117 := move t17
  refine QL.val (fun wq hq => Y.addS rfl rfl ((by rw [bs_size, bs_size, List.length_take]; omega))) (by decide) ?_   -- t118 := binOp add 9 t116 t117 9
  rw [bs_append]
  refine QL.val (fun wq hq => Y.move rfl) (by decide) ?_   -- t119 := move t18
  refine QL.val (fun wq hq => Y.addS rfl rfl ((by rw [bs_size, bs_size, List.length_append, List.length_take]; omega))) (by decide) ?_   -- t120 := binOp add 9 t118 t119 9
  rw [bs_append]
  refine QL.val (fun wq hq => Y.move rfl) (by decide) ?_   -- t121 := move t11
  refine QL.val (fun wq hq => Y.move rfl) (by decide) ?_   -- t122 := move t10
  refine QL.val (fun wq hq => Y.strTail (i := k) Try.underlying9 rfl rfl (by omega) (by omega)) (by decide) ?_   -- t123 := slice 9 t121 t122 none none
  refine QL.val (fun wq hq => Y.addS rfl rfl ((by rw [bs_size, bs_size, List.length_drop, List.length_append, List.length_append, List.length_take]; omega))) (by decide) ?_   -- t124 := binOp add 9 t120 t123 9
  rw [bs_append]
  refine QL.val (fun wq hq => Y.eql_string rfl rfl) (by decide) ?_   -- t125 := binOp eql 9 t113 t124 9
  refine QL.val (fun wq hq => Y.move rfl) (by decide) ?_   -- t126 := move t125
  first | refine QL.casesD (d := 126) rfl (fun hg126 => ?_) (fun hg126 => ?_) | refine QL.casesND (d := 126) rfl (fun hg126 => ?_) (fun hg126 => ?_) | refine QL.cases (d := 126) rfl (fun hg126 => ?_) (fun hg126 => ?_)
  · -- t126 = T
    refine QL.goff rfl rfl (by decide) ?_   -- t127 := move t19 [if 13=false]
    refine QL.goff rfl rfl (by decide) ?_   -- t128 := move t11 [if 13=false]
    refine QL.goff rfl rfl (by decide) ?_   -- t129 := move t10 [if 13=false]
    refine QL.goff rfl rfl (by decide) ?_   -- t130 := slice 9 t128 none t129 none [if 13=false]
    refine QL.goff rfl rfl (by decide) ?_   -- t131 := move t18 [if 13=false]
    refine QL.goff rfl rfl (by decide) ?_   -- t132 := binOp add 9 t130 t131 9 [if 13=false]
    refine QL.goff rfl rfl (by decide) ?_   -- t133 := move t17 [if 13=false]
    refine QL.goff rfl rfl (by decide) ?_   -- t134 := binOp add 9 t132 t133 9 [if 13=false]
    refine QL.goff rfl rfl (by decide) ?_   -- t135 := move t11 [if 13=false]
    refine QL.goff rfl rfl (by decide) ?_   -- t136 := move t10 [if 13=false]
    refine QL.goff rfl rfl (by decide) ?_   -- t137 := slice 9 t135 t136 none none [if 13=false]
    refine QL.goff rfl rfl (by decide) ?_   -- t138 := binOp add 9 t134 t137 9 [if 13=false]
    refine QL.goff rfl rfl (by decide) ?_   -- t139 := binOp eql 9 t127 t138 9 [if 13=false]
    refine QL.val (fun wq hq => Y.pick rfl rfl) (by decide) ?_   -- t140 := pick t126 c(true) t139
    refine QL.val (fun wq hq => Y.move rfl) (by decide) ?_   -- t141 := move t140
    refine QL.gval rfl rfl (fun wq hq => Y.move rfl) (by decide) ?_   -- t142 := move t16 [if 28=true]
    refine QL.gcall rfl rfl Try.func15 rfl rfl rfl (fun wq hq => ret_ext (by have h9 := ftext_any g2 rb2 ra2 _ ns6 _ (((hT16.ext hx17).ext hx18).ext hq) hG6 hn6; rw [he16, hap.2] at h9; exact h9) hq) (by decide) ?_   -- t143 := call F15(t142) : 27 [if 28=true]
    refine QL.gval rfl rfl (fun wq hq => Y.move rfl) (by decide) ?_   -- t144 := move t19 [if 28=true]
    refine QL.gval rfl rfl (fun wq hq => Y.eql_string rfl rfl) (by decide) ?_   -- t145 := binOp eql 9 t143 t144 9 [if 28=true]
    refine QL.val (fun wq hq => Y.pick rfl rfl) (by decide) ?_   -- t146 := pick t141 t145 c(false)
    refine QL.val (fun wq hq => Y.assign rfl) (by decide) ?_   -- t6 := assign t146
    refine QL.nil fun w19 hx19 => ?_
    have hz19 := hx19.size
    have hE := hE.thenExt hx19
    have hB4 := hB4.ext hx19
    have hB5 := hB5.ext hx19
    refine hK21 _ _ ?_; try clear hK21 K21
    refine CW.ret ⟨_, rfl, ?_⟩
    exact ⟨by simp, hE⟩
  · -- t126 = F
    refine QL.gval rfl rfl (fun wq hq => Y.move rfl) (by decide) ?_   -- t127 := move t19 [if 13=false]
    refine QL.gval rfl rfl (fun wq hq => Y.move rfl) (by decide) ?_   -- t128 := move t11 [if 13=false]
    refine QL.gval rfl rfl (fun wq hq => Y.move rfl) (by decide) ?_   -- t129 := move t10 [if 13=false]
    refine QL.gval rfl rfl (fun wq hq => Y.strHead (j := k) Try.underlying9 rfl rfl (by omega) (by omega)) (by decide) ?_   -- t130 := slice 9 t128 none t129 none [if 13=false]
    refine QL.gval rfl rfl (fun wq hq => Y.move rfl) (by decide) ?_   -- t131 := move t18 [if 13=false]
    refine QL.gval rfl rfl (fun wq hq => Y.addS rfl rfl ((by rw [bs_size, bs_size, List.length_take]; omega))) (by decide) ?_   -- t132 := binOp add 9 t130 t131 9 [if 13=false]
    rw [bs_append]
    refine QL.gval rfl rfl (fun wq hq => Y.move rfl) (by decide) ?_   -- t133 := move t17 [if 13=false]
    refine QL.gval rfl rfl (fun wq hq => Y.addS rfl rfl ((by rw [bs_size, bs_size, List.length_append, List.length_take]; omega))) (by decide) ?_   -- t134 := binOp add 9 t132 t133 9 [if 13=false]
    rw [bs_append]
    refine QL.gval rfl rfl (fun wq hq => Y.move rfl) (by decide) ?_   -- t135 := move t11 [if 13=false]
    refine QL.gval rfl rfl (fun wq hq => Y.move rfl) (by decide) ?_   -- t136 := move t10 [if 13=false]
    refine QL.gval rfl rfl (fun wq hq => Y.strTail (i := k) Try.underlying9 rfl rfl (by omega) (by omega)) (by decide) ?_   -- t137 := slice 9 t135 t136 none none [if 13=false]
    refine QL.gval rfl rfl (fun wq hq => Y.addS rfl rfl ((by rw [bs_size, bs_size, List.length_drop, List.length_append, List.length_append, List.length_take]; omega))) (by decide) ?_   -- t138 := binOp add 9 t134 t137 9 [if 13=false]
    rw [bs_append]
    refine QL.gval rfl rfl (fun wq hq => Y.eql_string rfl rfl) (by decide) ?_   -- t139 := binOp eql 9 t127 t138 9 [if 13=false]
    refine QL.val (fun wq hq => Y.pick rfl rfl) (by decide) ?_   -- t140 := pick t126 c(true) t139
    refine QL.val (fun wq hq => Y.move rfl) (by decide) ?_   -- t141 := move t140
    first | refine QL.casesD (d := 141) rfl (fun hg141 => ?_) (fun hg141 => ?_) | refine QL.casesND (d := 141) rfl (fun hg141 => ?_) (fun hg141 => ?_) | refine QL.cases (d := 141) rfl (fun hg141 => ?_) (fun hg141 => ?_)
    · -- t141 = T
      refine QL.gval rfl rfl (fun wq hq => Y.move rfl) (by decide) ?_   -- t142 := move t16 [if 28=true]
      refine QL.gcall rfl rfl Try.func15 rfl rfl rfl (fun wq hq => ret_ext (by have h9 := ftext_any g2 rb2 ra2 _ ns6 _ (((hT16.ext hx17).ext hx18).ext hq) hG6 hn6; rw [he16, hap.2] at h9; exact h9) hq) (by decide) ?_   -- t143 := call F15(t142) : 27 [if 28=true]
      refine QL.gval rfl rfl (fun wq hq => Y.move rfl) (by decide) ?_   -- t144 := move t19 [if 28=true]
      refine QL.gval rfl rfl (fun wq hq => Y.eql_string rfl rfl) (by decide) ?_   -- t145 := binOp eql 9 t143 t144 9 [if 28=true]
      refine QL.val (fun wq hq => Y.pick rfl rfl) (by decide) ?_   -- t146 := pick t141 t145 c(false)
      refine QL.val (fun wq hq => Y.assign rfl) (by decide) ?_   -- t6 := assign t146
      refine QL.nil fun w20 hx20 => ?_
      have hz20 := hx20.size
      have hE := hE.thenExt hx20
      have hB4 := hB4.ext hx20
      have hB5 := hB5.ext hx20
      refine hK21 _ _ ?_; try clear hK21 K21
      refine CW.ret ⟨_, rfl, ?_⟩
      exact ⟨by simp, hE⟩
    · -- t141 = F
      refine QL.goff rfl rfl (by decide) ?_   -- t142 := move t16 [if 28=true]
      refine QL.goff rfl rfl (by decide) ?_   -- t143 := call F15(t142) : 27 [if 28=true]
      refine QL.goff rfl rfl (by decide) ?_   -- t144 := move t19 [if 28=true]
      refine QL.goff rfl rfl (by decide) ?_   -- t145 := binOp eql 9 t143 t144 9 [if 28=true]
      refine QL.val (fun wq hq => Y.pick rfl rfl) (by decide) ?_   -- t146 := pick t141 t145 c(false)
      refine QL.val (fun wq hq => Y.assign rfl) (by decide) ?_   -- t6 := assign t146
      refine QL.nil fun w21 hx21 => ?_
      have hz21 := hx21.size
      have hE := hE.thenExt hx21
      have hB4 := hB4.ext hx21
      have hB5 := hB5.ext hx21
      refine hK21 _ _ ?_; try clear hK21 K21
      refine CW.ret ⟨_, rfl, ?_⟩
      exfalso
      rcases hap.1 with h | h
      · rw [h] at hg126; simp at hg126
      · rw [h] at hg141; simp at hg141
end Go.Proofs.Ytffkmlkdlhkkmaa
