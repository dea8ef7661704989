/- FugueDeletes, walked. No condition. -/
import Derived.Test.YtffkmlkdlhkkmaaFe
import Derived.Test.YtffkmlkdlhkkmaaTr
set_option linter.unusedSimpArgs false
set_option linter.unusedVariables false
namespace Go.Fw
theorem cut_bs (p : List UInt8) {i j : Nat} (h : j ≤ p.length) : (bs p).extract i j = bs ((p.drop i).take (j - i)) := by
  apply ByteArray.ext
  rw [ByteArray.data_extract]
  show p.toArray.extract i j = ((p.drop i).take (j - i)).toArray
  apply Array.ext'
  simp [Array.toList_extract, List.extract_eq_take_drop]
section
variable {P : Program} {n : NN} {fr : Fr} {w : World} {ty : TypeId}
theorem Y.strHead {x hi : Operand} {p : List UInt8} {t : TypeId} {j : Nat} {kj : IntKind} {zj : Int} (hT : P.underlying t = some .string) (hx : ev fr x = some (.string (bs p))) (hhi : ev fr hi = some (.int kj zj)) (hj' : zj = (j : Int)) (h2 : j ≤ p.length) :
    Yw P n fr (.slice t x none (some hi) none) ty w (.string (bs (p.take j))) w := fun b o' ho _ ha => by
  subst hj'
  have e2 : (0 : Int) ≤ (j : Int) := by omega
  have e3 := cut_bs p (i := 0) h2
  rw [List.drop_zero, Nat.sub_zero] at e3
  have e4 : j ≤ (bs p).size := by rw [bs_size]; exact h2
  simp [execOp, ho, ha.ev hx, ha.ev hhi, Instr.sliceAt, Instr.slice, run_underlying hT, Instr.sliceBounds, Instr.sliceBound, asIntOf, e2, e3, e4]
theorem Y.strTail {x lo : Operand} {p : List UInt8} {t : TypeId} {i : Nat} {ki : IntKind} {zi : Int} (hT : P.underlying t = some .string) (hx : ev fr x = some (.string (bs p))) (hlo : ev fr lo = some (.int ki zi)) (hi' : zi = (i : Int)) (h2 : i ≤ p.length) :
    Yw P n fr (.slice t x (some lo) none none) ty w (.string (bs (p.drop i))) w := fun b o' ho _ ha => by
  subst hi'
  have e2 : (0 : Int) ≤ (i : Int) := by omega
  have e3 := cut_bs p (i := i) (j := (bs p).size) (by rw [bs_size]; exact Nat.le_refl _)
  rw [List.take_of_length_le (by rw [bs_size, List.length_drop]; exact Nat.le_refl _)] at e3
  have e4 : i ≤ (bs p).size := by rw [bs_size]; exact h2
  simp [execOp, ho, ha.ev hx, ha.ev hlo, Instr.sliceAt, Instr.slice, run_underlying hT, Instr.sliceBounds, Instr.sliceBound, asIntOf, e2, e3, e4]
end
theorem Mem.two0 {w : World} {a : Addr} {x y : Dig} (h : Mem w a (digC x ++ digC y)) : Mem w (a.add (0 * 32)) (digC x) := h.sub 0 fun j v hj => by
  rw [Nat.zero_add, List.getElem?_append_left (List.getElem?_eq_some_iff.1 hj).1]; exact hj
theorem Mem.two1 {w : World} {a : Addr} {x y : Dig} (h : Mem w a (digC x ++ digC y)) : Mem w (a.add (1 * 32)) (digC y) := h.sub 32 fun j v hj => by
  rw [List.getElem?_append_right (by rw [digC_length]; omega), digC_length, Nat.add_sub_cancel_left]; exact hj
end Go.Fw
namespace Go.Proofs.Ytffkmlkdlhkkmaa
open Go.RowKit Go.Fw Go.Fu Go.Pl
theorem built_op8 (parts : List (Nat × Value)) : Try.prog.built 62 parts = Instr.fill (fun i => #[(0, 1), (1, 1), (2, 34), (36, 1)][i]?) (opC ⟨0, false, RefD.zero, 0⟩).toArray parts := by kernel_rfl
theorem build_opD (r : RefD) (w : World) : (Instr.build 62 [(0, Value.int .i64 2), (2, refV r)].toArray).run Try.prog w = .ok (.agg (opC ⟨2, false, r, 0⟩).toArray) w := run_build w _ _ _ (by
  show Try.prog.built _ [(0, Value.int .i64 2), (2, refV r)] = _
  rw [built_op8]
  have e0 : opC ⟨0, false, RefD.zero, 0⟩ = [] ++ [Value.int .i64 0] ++ ([Value.bool false] ++ refC RefD.zero ++ [bc 0]) := rfl
  rw [e0, fill_step [] [Value.int .i64 0] ([Value.bool false] ++ refC RefD.zero ++ [bc 0]) [.int .i64 2] rfl rfl rfl rfl]
  have e1 : [] ++ [Value.int .i64 2] ++ ([Value.bool false] ++ refC RefD.zero ++ [bc 0]) = [Value.int .i64 2, .bool false] ++ refC RefD.zero ++ [bc 0] := by simp
  rw [e1, fill_step [Value.int .i64 2, .bool false] (refC RefD.zero) [bc 0] (refC r) (by rw [refC_length]; rfl) rfl (by rw [refC_length, refC_length]) rfl, Instr.fill]
  simp [opC, bc])
theorem refT_at {e : List El} {k i : Nat} (h : (seenE e)[k]? = some i) : refT e k = (nm e i, true) := by
  have hl := (List.getElem?_eq_some_iff.1 h).1
  rw [refT, if_neg (by omega)]
  simp [h]
theorem textE_length (e : List El) : (textE e).length = (seenE e).length := by simp [textE]

set_option maxHeartbeats 1000000 in
theorem deletes_any (u : Value) (l : List CmV) (i0 i1 : Dig) (n : Int) (w : World) (hl : Cms w u l) : Calls Try.prog 7 #[u, .agg (digC i0 ++ digC i1).toArray, .int .i64 n] w (Ret fun v w' => v = .bool true ∧ Ext w w') := by
  obtain ⟨A, m, c, rfl, hm, hmc, hcm, _⟩ := _root_.id hl.sl
  unfold maxLen at hcm
  refine calls_of_CW 110 [6] [(0, .slice A m c), (1, .agg (digC i0 ++ digC i1).toArray), (2, .int .i64 n)] Try.func7 rfl rfl rfl (by simp) args3 ?_
  have hE : Ext w w := Chg.refl
  refine CW.seq fun K1 hK1 => ?_
  refine CW.region ?_   -- region 0
  refine WL.box rfl rfl (by decide) fun g4 w1 hx1 hg4 hB4 => ?_   -- t4 := box 66 t1
  have hlt4 := hB4.lt; have hz1 := hx1.size
  have hM4 := hB4.mem; have hz1 := hx1.size; have hE := hE.thenExt hx1
  refine WL.val (Y.assign rfl) (by decide) ?_   -- t6 := assign c(false)
  refine WL.nil ?_
  refine hK1 _ _ ?_; try clear hK1 K1
  refine CW.seq fun K2 hK2 => ?_
  refine CW.region ?_   -- region 1
  refine WL.val (Y.move rfl) (by decide) ?_   -- t18 := move t0
  refine WL.call Try.func11 rfl rfl rfl (grown_any _ l _ (hl.ext hE)) (by simp) ?_; rintro v19 w2 hR2   -- t19 := call F11(t18) : 22
  obtain ⟨g, rb, ra, ns, gr, rs, av, ev_, L, T, rfl, hA⟩ := hR2
  have hz2 := hA.ext.size
  have hE := hE.thenExt hA.ext
  have hB4 := hB4.ext hA.ext
  have hT2 := hA.ft
  have hfe := hA.fe
  have hok := hA.ok
  have hG : Fu.Good (Fw.els ns) := by rw [hfe]; exact hok.good
  have hel : (Fw.els ns).length = ns.length := List.length_map _
  have hn5 : ns.length ≤ 400001 := by rw [← hel, hfe]; exact hok.few
  have hlv : (seenE T.e).length = liveN ns := by rw [← hfe]; exact hG.seen_length
  have hln : liveN ns ≤ ns.length := by
    have := List.countP_le_length (p := fun x : El => !x.gone) (l := Fw.els ns)
    rwa [hel] at this
  refine WL.val (Y.move rfl) (by decide) ?_   -- t17 := move t19
  refine WL.val (Y.extract rfl rfl) (by decide) ?_   -- t20 := extract t17 0
  refine WL.val (Y.extract rfl rfl) (by decide) ?_   -- t21 := extract t17 1
  refine WL.val (Y.extract rfl rfl) (by decide) ?_   -- t22 := extract t17 2
  refine WL.val (Y.assign rfl) (by decide) ?_   -- t7 := assign t20
  refine WL.val (Y.assign rfl) (by decide) ?_   -- t8 := assign t21
  refine WL.val (Y.assign rfl) (by decide) ?_   -- t9 := assign t22
  refine WL.nil ?_
  refine hK2 _ _ ?_; try clear hK2 K2
  refine CW.seq fun K3 hK3 => ?_
  refine CW.seq_testE 28 (False) ?_ ?_
  · refine CW.region ?_
    refine WL.val (Y.move rfl) (by decide) ?_   -- t23 := move t9
    refine WL.val (Y.not rfl) (by decide) ?_   -- t24 := unOp not 4 t23
    refine WL.val (Y.move rfl) (by decide) ?_   -- t25 := move t24
    first | refine WL.casesD (d := 25) rfl (fun hg25 => ?_) (fun hg25 => ?_) | refine WL.casesND (d := 25) rfl (fun hg25 => ?_) (fun hg25 => ?_) | refine WL.cases (d := 25) rfl (fun hg25 => ?_) (fun hg25 => ?_)
    · -- t25 = T
      refine WL.goff rfl rfl (by decide) ?_   -- t26 := call F12() :  [if 2=false]
      refine WL.goff rfl rfl (by decide) ?_   -- t27 := unOp not 4 t26 [if 2=false]
      refine WL.val (Y.pick rfl rfl) (by decide) ?_   -- t28 := pick t25 c(true) t27
      refine WL.nil ⟨⟨_, rfl, ?_⟩, Chg.refl, (by repeat (first | exact Fr.le.refl | refine Fr.le.push rfl ?_))⟩
      first | (simp only [*, Int.natCast_inj, Bool.not_eq_true', decide_eq_false_iff_not, decide_eq_true_eq, not_true_eq_false, not_false_eq_true, true_and, false_and, and_true, and_false, false_or, or_false, true_or, or_true, iff_true, true_iff, iff_false, false_iff]; done) | (simp_all; done) | (refine congrArg Value.bool (Bool.eq_iff_iff.2 ?_); simp_all; done) | (simp_all; omega)
    · -- t25 = F
      refine WL.gcall rfl rfl Try.func12 rfl rfl rfl (alive_any _) (by decide) ?_; rintro v w3 ⟨rfl, hx3⟩; have hz3 := hx3.size; have hE := hE.thenExt hx3; have hB4 := hB4.ext hx3   -- t26 := call F12() :  [if 2=false]
      refine WL.gval rfl rfl (Y.not rfl) (by decide) ?_   -- t27 := unOp not 4 t26 [if 2=false]
      refine WL.val (Y.pick rfl rfl) (by decide) ?_   -- t28 := pick t25 c(true) t27
      refine WL.nil ⟨⟨_, rfl, ?_⟩, hx3, (by repeat (first | exact Fr.le.refl | refine Fr.le.push rfl ?_))⟩
      first | (simp only [*, Int.natCast_inj, Bool.not_eq_true', decide_eq_false_iff_not, decide_eq_true_eq, not_true_eq_false, not_false_eq_true, true_and, false_and, and_true, and_false, false_or, or_false, true_or, or_true, iff_true, true_iff, iff_false, false_iff]; done) | (simp_all; done) | (refine congrArg Value.bool (Bool.eq_iff_iff.2 ?_); simp_all; done) | (simp_all; omega)
  intro w4 hx4; have hz4 := hx4.size; have hE := hE.thenExt hx4; have hB4 := hB4.ext hx4
  first | refine CW.condD rfl (fun ht4 => ?_) (fun ht4 => ?_) | refine CW.condND rfl (fun ht4 => ?_) (fun ht4 => ?_) | refine CW.condN rfl (fun ht4 => ?_) (fun ht4 => ?_) | refine CW.cond rfl (fun ht4 => ?_) (fun ht4 => ?_)
  · -- then
    refine CW.seq fun K5 hK5 => ?_
    refine CW.region ?_   -- region 3
    refine WL.val (Y.assign rfl) (by decide) ?_   -- t6 := assign c(false)
    refine WL.nil ?_
    refine hK5 _ _ ?_; try clear hK5 K5
    refine CW.ret ⟨_, rfl, ?_⟩
    exact False.elim (by assumption)
  -- else
  refine CW.skip ?_
  refine hK3 _ _ ?_; try clear hK3 K3
  refine CW.seq fun K6 hK6 => ?_
  refine CW.seq_testE 38 ((liveN ns : Int) = 0 ∨ i0 = i1) ?_ ?_
  · refine CW.region ?_
    refine WL.val (Y.move rfl) (by decide) ?_   -- t29 := move t7
    refine WL.call Try.func14 rfl rfl rfl (flen_any g rb ra _ ns _ (hT2.ext hx4)) (by simp) ?_; rintro v w5 ⟨rfl, hx5⟩; have hz5 := hx5.size; have hE := hE.thenExt hx5; have hB4 := hB4.ext hx5   -- t30 := call F14(t29) : 27
    refine WL.val (Y.eql rfl rfl) (by decide) ?_   -- t31 := binOp eql 3 t30 c(0:i64) 3
    refine WL.val (Y.move rfl) (by decide) ?_   -- t32 := move t31
    first | refine WL.casesD (d := 32) rfl (fun hg32 => ?_) (fun hg32 => ?_) | refine WL.casesND (d := 32) rfl (fun hg32 => ?_) (fun hg32 => ?_) | refine WL.cases (d := 32) rfl (fun hg32 => ?_) (fun hg32 => ?_)
    · -- t32 = T
      refine WL.goff rfl rfl (by decide) ?_   -- t33 := indexAddr 66 t4 c(0:i64) [if 3=false]
      refine WL.goff rfl rfl (by decide) ?_   -- t34 := load 24 t33 [if 3=false]
      refine WL.goff rfl rfl (by decide) ?_   -- t35 := indexAddr 66 t4 c(1:i64) [if 3=false]
      refine WL.goff rfl rfl (by decide) ?_   -- t36 := load 24 t35 [if 3=false]
      refine WL.goff rfl rfl (by decide) ?_   -- t37 := binOp eql 24 t34 t36 24 [if 3=false]
      refine WL.val (Y.pick rfl rfl) (by decide) ?_   -- t38 := pick t32 c(true) t37
      refine WL.nil ⟨⟨_, rfl, ?_⟩, hx5, (by repeat (first | exact Fr.le.refl | refine Fr.le.push rfl ?_))⟩
      first | (simp only [*, Int.natCast_inj, Bool.not_eq_true', decide_eq_false_iff_not, decide_eq_true_eq, not_true_eq_false, not_false_eq_true, true_and, false_and, and_true, and_false, false_or, or_false, true_or, or_true, iff_true, true_iff, iff_false, false_iff]; done) | (simp_all; done) | (refine congrArg Value.bool (Bool.eq_iff_iff.2 ?_); simp_all; done) | (simp_all; omega)
    · -- t32 = F
      refine WL.gval rfl rfl (Y.indexAddrAN (i := 0) Try.underlying66 rfl rfl sz0_apiDigest (by decide)) (by decide) ?_   -- t33 := indexAddr 66 t4 c(0:i64) [if 3=false]
      refine WL.gval rfl rfl (Y.load Try.underlying24 rfl hB4.mem.two0 (sz_apiDigest _) rfl) (by decide) ?_   -- t34 := load 24 t33 [if 3=false]
      refine WL.gval rfl rfl (Y.indexAddrAN (i := 1) Try.underlying66 rfl rfl sz0_apiDigest (by decide)) (by decide) ?_   -- t35 := indexAddr 66 t4 c(1:i64) [if 3=false]
      refine WL.gval rfl rfl (Y.load Try.underlying24 rfl hB4.mem.two1 (sz_apiDigest _) rfl) (by decide) ?_   -- t36 := load 24 t35 [if 3=false]
      refine WL.gval rfl rfl (Y.eql_apiDigest rfl rfl) (by decide) ?_   -- t37 := binOp eql 24 t34 t36 24 [if 3=false]
      refine WL.val (Y.pick rfl rfl) (by decide) ?_   -- t38 := pick t32 c(true) t37
      refine WL.nil ⟨⟨_, rfl, ?_⟩, hx5, (by repeat (first | exact Fr.le.refl | refine Fr.le.push rfl ?_))⟩
      first | (simp only [*, Int.natCast_inj, Bool.not_eq_true', decide_eq_false_iff_not, decide_eq_true_eq, not_true_eq_false, not_false_eq_true, true_and, false_and, and_true, and_false, false_or, or_false, true_or, or_true, iff_true, true_iff, iff_false, false_iff]; done) | (simp_all; done) | (refine congrArg Value.bool (Bool.eq_iff_iff.2 ?_); simp_all; done) | (simp_all; omega)
  intro w6 hx6; have hz6 := hx6.size; have hE := hE.thenExt hx6; have hB4 := hB4.ext hx6
  first | refine CW.condD rfl (fun ht7 => ?_) (fun ht7 => ?_) | refine CW.condND rfl (fun ht7 => ?_) (fun ht7 => ?_) | refine CW.condN rfl (fun ht7 => ?_) (fun ht7 => ?_) | refine CW.cond rfl (fun ht7 => ?_) (fun ht7 => ?_)
  · -- then
    refine CW.seq fun K8 hK8 => ?_
    refine CW.region ?_   -- region 5
    refine WL.val (Y.assign rfl) (by decide) ?_   -- t6 := assign c(true)
    refine WL.nil ?_
    refine hK8 _ _ ?_; try clear hK8 K8
    refine CW.ret ⟨_, rfl, ?_⟩
    exact ⟨rfl, hE⟩
  -- else
  refine CW.skip ?_
  refine hK6 _ _ ?_; try clear hK6 K6
  refine CW.seq fun K9 hK9 => ?_
  have hne : ¬ ((liveN ns : Int) = 0 ∨ i0 = i1) := by assumption
  have hpos : liveN ns ≠ 0 := fun h => hne (.inl (by omega))
  obtain ⟨k, hk, hkp⟩ := placeI_le n (liveN ns - 1)
  have hsub : ((liveN ns : Nat) : Int) - 1 = ((liveN ns - 1 : Nat) : Int) := by omega
  obtain ⟨i, hi⟩ : ∃ i, (seenE T.e)[k]? = some i := ⟨_, List.getElem?_eq_getElem (by omega)⟩
  have hrt : refT (Fw.els ns) k = (nm T.e i, true) := by rw [hfe]; exact refT_at hi
  have htl : (textE T.e).length = liveN ns := by rw [textE_length, hlv]
  refine CW.region ?_   -- region 6
  refine WL.val (Y.move rfl) (by decide) ?_   -- t39 := move t2
  refine WL.val (Y.move rfl) (by decide) ?_   -- t40 := move t7
  refine WL.call Try.func14 rfl rfl rfl (flen_any g rb ra _ ns _ ((hT2.ext hx4).ext hx6)) (by simp) ?_; rintro v w7 ⟨rfl, hx7⟩; have hz7 := hx7.size; have hE := hE.thenExt hx7; have hB4 := hB4.ext hx7   -- t41 := call F14(t40) : 27
  refine WL.val (Y.sub rfl rfl ⟨by omega, by omega⟩) (by decide) ?_   -- t42 := binOp sub 3 t41 c(1:i64) 3
  rw [hsub]
  refine WL.call Try.func13 rfl rfl rfl (place_any n (liveN ns - 1) _ (by omega)) (by simp) ?_; rintro v w8 ⟨rfl, hx8⟩; have hz8 := hx8.size; have hE := hE.thenExt hx8; have hB4 := hB4.ext hx8   -- t43 := call F13(t39, t42) : 3,3
  rw [hkp]
  refine WL.val (Y.assign rfl) (by decide) ?_   -- t2 := assign t43
  refine WL.nil ?_
  refine hK9 _ _ ?_; try clear hK9 K9
  refine CW.seq fun K10 hK10 => ?_
  refine CW.region ?_   -- region 7
  refine WL.val (Y.move rfl) (by decide) ?_   -- t44 := move t7
  refine WL.call Try.func15 rfl rfl rfl ((by have h9 := ftext_any g rb ra _ ns _ ((((hT2.ext hx4).ext hx6).ext hx7).ext hx8) hG hn5; rw [hfe] at h9; exact h9)) (by simp) ?_; rintro v w9 ⟨rfl, hx9⟩; have hz9 := hx9.size; have hE := hE.thenExt hx9; have hB4 := hB4.ext hx9   -- t45 := call F15(t44) : 27
  refine WL.val (Y.assign rfl) (by decide) ?_   -- t10 := assign t45
  refine WL.nil ?_
  refine hK10 _ _ ?_; try clear hK10 K10
  refine CW.seq fun K11 hK11 => ?_
  refine CW.region ?_   -- region 8
  refine WL.val (Y.move rfl) (by decide) ?_   -- t47 := move t7
  refine WL.val (Y.move rfl) (by decide) ?_   -- t48 := move t2
  refine WL.call Try.func25 rfl rfl rfl ((by have h9 := fref_any g rb ra _ ns (k : Int) _ (((((hT2.ext hx4).ext hx6).ext hx7).ext hx8).ext hx9) hG hn5; rw [hrt] at h9; exact h9)) (by simp) ?_; rintro v w10 ⟨rfl, hx10⟩; have hz10 := hx10.size; have hE := hE.thenExt hx10; have hB4 := hB4.ext hx10   -- t49 := call F25(t47, t48) : 27,3
  refine WL.val (Y.move rfl) (by decide) ?_   -- t46 := move t49
  refine WL.val (Y.extract rfl rfl) (by decide) ?_   -- t50 := extract t46 0
  refine WL.val (Y.extract rfl rfl) (by decide) ?_   -- t51 := extract t46 1
  refine as_apiRef rfl (by simp) (by decide) fun g11 w11 hx11 hg11 hB11 => ?_   -- alloc 49; store 49 t11 t50
  have hlt11 := hB11.lt; have hz11 := hx11.size
  have hM11 := hB11.mem; have hz11 := hx11.size; have hE := hE.thenExt hx11; have hB4 := hB4.ext hx11
  refine WL.val (Y.assign rfl) (by decide) ?_   -- t12 := assign t51
  refine WL.nil ?_
  refine hK11 _ _ ?_; try clear hK11 K11
  refine CW.seq fun K12 hK12 => ?_
  refine CW.region ?_   -- region 9
  refine WL.val (Y.load Try.underlying49 rfl hB11.mem (sz_apiRef _) rfl) (by decide) ?_   -- t52 := load 49 t11
  refine WL.val (Y.build rfl (build_opD (nm T.e i) _)) (by decide) ?_   -- t53 := build 62 [(0,c(2:i64)), (2,t52)]
  refine WL.st (St.buildSlice rfl (bs1_op _)) (by decide) fun v54 w12 hR12 => ?_   -- t54 := buildSlice 35 1 [(0,t53)]
  obtain ⟨go, rfl, hgo, hBo, hx12⟩ := hR12
  have hz12 := hx12.size
  have hE := hE.thenExt hx12
  have hB4 := hB4.ext hx12
  have hB11 := hB11.ext hx12
  have hT12 := ((((((((hT2.ext hx4).ext hx6).ext hx7).ext hx8).ext hx9).ext hx10).ext hx11).ext hx12)
  have hOo : Own w12 62 37 (.slice (some ⟨go, 0, none⟩) 1 1) (((delOps (nm T.e i)).map opC).flatten) := by
    have h9 := Blk.own (k := 37) (m := 1) hBo (by rw [opC_length]) (by unfold maxLen; omega)
    simpa [delOps] using h9
  have hgo' : ∀ q, (Value.slice (some ⟨go, 0, none⟩) 1 1).ownBlock = some q → q = go := fun q h => by
    injection h with h
    exact h.symm
  have hgl := hBo.lt
  have hFl : ∀ q, Fp g rb ra ns q → w1.heap.size ≤ q ∧ q < w2.heap.size := fun q hq => ⟨hA.fnew q hq, hT2.lt hq⟩
  have hSo := hOo.sl opC_length (by decide)
  refine WL.val (Y.assign rfl) (by decide) ?_   -- t13 := assign t54
  refine WL.nil ?_
  refine hK12 _ _ ?_; try clear hK12 K12
  refine CW.seq fun K13 hK13 => ?_
  refine CW.seq fun K14 hK14 => ?_
  refine CW.region ?_   -- region 10
  refine WL.val (Y.move rfl) (by decide) ?_   -- t55 := move t12
  refine WL.val (Y.not rfl) (by decide) ?_   -- t56 := unOp not 4 t55
  refine WL.nil ?_
  refine hK14 _ _ ?_; try clear hK14 K14
  first | refine CW.condD rfl (fun ht15 => ?_) (fun ht15 => ?_) | refine CW.condND rfl (fun ht15 => ?_) (fun ht15 => ?_) | refine CW.condN rfl (fun ht15 => ?_) (fun ht15 => ?_) | refine CW.cond rfl (fun ht15 => ?_) (fun ht15 => ?_)
  · -- then
    refine CW.seq fun K16 hK16 => ?_
    refine CW.region ?_   -- region 11
    refine WL.val (Y.assign rfl) (by decide) ?_   -- t6 := assign c(false)
    refine WL.nil ?_
    refine hK16 _ _ ?_; try clear hK16 K16
    refine CW.ret ⟨_, rfl, ?_⟩
    simp_all
  -- else
  refine CW.skip ?_
  refine hK13 _ _ ?_; try clear hK13 K13
  refine CW.seq fun K17 hK17 => ?_
  refine CW.seq fun K18 hK18 => ?_
  refine CW.region ?_   -- region 12
  refine WL.val (Y.move rfl) (by decide) ?_   -- t57 := move t7
  refine WL.val (Y.indexAddrAN (i := 0) Try.underlying66 rfl rfl sz0_apiDigest (by decide)) (by decide) ?_   -- t58 := indexAddr 66 t4 c(0:i64)
  refine WL.val (Y.load Try.underlying24 rfl hB4.mem.two0 (sz_apiDigest _) rfl) (by decide) ?_   -- t59 := load 24 t58
  refine WL.val (Y.move rfl) (by decide) ?_   -- t60 := move t13
  refine WL.call Try.func17 rfl rfl rfl (fadd_any g rb ra T.ad ns i0 _ (delOps (nm T.e i)) L _ hT12 (by rw [hfe]; exact hok) hSo (fun _ q hq => by have := hgo' q hq; exact ⟨by omega, fun h => by have := (hFl q h).2; omega⟩)) (by simp) ?_; rintro v61 w13 hR13   -- t61 := call F17(t57, t59, t60) : 27,24,35
  obtain ⟨rfl, ns3, hT13, he13, hc13, hf13, _⟩ := hR13
  rw [hfe] at hT13 he13
  have hwe : wrongC ⟨T.ad, Fw.els ns⟩ i0 (delOps (nm T.e i)) = wrongC T i0 (delOps (nm T.e i)) := by rw [hfe]
  rw [hwe]
  have hz13 := hc13.size
  have hE := hE.step hc13 (fun q hq => by have := (hFl q hq).1; omega)
  have hB4 := hB4.chg hc13 (fun h => by have := (hFl _ h).1; omega)
  have hB11 := hB11.chg hc13 (fun h => by have := (hFl _ h).2; omega)
  have hO13 := hOo.chg hc13 (fun q hq h => by have h1 := (hFl _ h).2; have h2 := hgo' q hq; omega)
  obtain ⟨L3, hok3, _⟩ := hok.addT i0 (delOps (nm T.e i))
  have hG3 : Fu.Good (Fw.els ns3) := by rw [he13]; exact hok3.good
  have hel3 : (Fw.els ns3).length = ns3.length := List.length_map _
  have hn3 : ns3.length ≤ 400001 := by rw [← hel3, he13]; exact hok3.few
  refine WL.val (Y.neq rfl rfl) (by decide) ?_   -- t62 := binOp neq 38 t61 c(0:i64) 38
  refine WL.nil ?_
  refine hK18 _ _ ?_; try clear hK18 K18
  first | refine CW.condD rfl (fun ht19 => ?_) (fun ht19 => ?_) | refine CW.condND rfl (fun ht19 => ?_) (fun ht19 => ?_) | refine CW.condN rfl (fun ht19 => ?_) (fun ht19 => ?_) | refine CW.cond rfl (fun ht19 => ?_) (fun ht19 => ?_)
  · -- then
    refine CW.seq fun K20 hK20 => ?_
    refine CW.region ?_   -- region 13
    refine WL.val (Y.move rfl) (by decide) ?_   -- t63 := move t7
    refine WL.call Try.func15 rfl rfl rfl (ftext_any g rb ra _ ns3 _ hT13 hG3 hn3) (by simp) ?_; rintro v w14 ⟨rfl, hx14⟩; have hz14 := hx14.size; have hE := hE.thenExt hx14; have hB4 := hB4.ext hx14; have hB11 := hB11.ext hx14   -- t64 := call F15(t63) : 27
    refine WL.val (Y.move rfl) (by decide) ?_   -- t65 := move t10
    refine WL.val (Y.eql_string rfl rfl) (by decide) ?_   -- t66 := binOp eql 9 t64 t65 9
    refine WL.val (Y.assign rfl) (by decide) ?_   -- t6 := assign t66
    refine WL.nil ?_
    refine hK20 _ _ ?_; try clear hK20 K20
    refine CW.ret ⟨_, rfl, ?_⟩
    have hsm : Fw.els ns3 = T.e := by
      rw [he13, addT, if_neg (by assumption)]
    rw [hsm]
    exact ⟨by simp, hE⟩
  -- else
  refine CW.skip ?_
  refine hK17 _ _ ?_; try clear hK17 K17
  refine CW.seq fun K21 hK21 => ?_
  have hw0 : wrongC T i0 (delOps (nm T.e i)) = 0 := Decidable.not_not.1 (by assumption)
  obtain ⟨hdt, hdp, hhs0, hag⟩ := delete_text hok hi hw0
  have htx : textE (Fw.els ns3) = (textE T.e).take k ++ (textE T.e).drop (k + 1) := by rw [he13]; exact hdt
  have hpl : placeV (Fw.els ns3) (nm T.e i) = (0, false) := by rw [he13, placeV, hdp]
  have hhs : hasE (Fw.els ns3) (nm T.e i) = true := by rw [he13]; exact hhs0
  refine CW.quiet (fun wq => Ext w13 wq) (by kernel_rfl) (by kernel_rfl) Chg.drew ?_
  refine QL.val (fun wq hq => Y.move rfl) (by decide) ?_   -- t67 := move t10
  refine QL.val (fun wq hq => Y.move rfl) (by decide) ?_   -- t68 := move t2
  refine QL.val (fun wq hq => Y.strHead (j := k) Try.underlying9 rfl rfl (by omega) (by omega)) (by decide) ?_   -- t69 := slice 9 t67 none t68 none
  refine QL.val (fun wq hq => Y.move rfl) (by decide) ?_   -- t70 := move t10
  refine QL.val (fun wq hq => Y.move rfl) (by decide) ?_   -- t71 := move t2
  refine QL.val (fun wq hq => Y.add rfl rfl ⟨by omega, by omega⟩) (by decide) ?_   -- t72 := binOp add 3 t71 c(1:i64) 3
  refine QL.val (fun wq hq => Y.strTail (i := (k + 1)) Try.underlying9 rfl rfl (by omega) (by omega)) (by decide) ?_   -- t73 := slice 9 t70 t72 none none
  refine QL.val (fun wq hq => Y.addS rfl rfl ((by rw [bs_size, bs_size, List.length_take, List.length_drop]; omega))) (by decide) ?_   -- t74 := binOp add 9 t69 t73 9
  rw [bs_append]
  refine QL.val (fun wq hq => Y.assign rfl) (by decide) ?_   -- t14 := assign t74
  refine QL.nil fun w15 hx15 => ?_
  have hz15 := hx15.size
  have hE := hE.thenExt hx15
  have hB4 := hB4.ext hx15
  have hB11 := hB11.ext hx15
  refine hK21 _ _ ?_; try clear hK21 K21
  refine CW.seq fun K22 hK22 => ?_
  refine CW.region ?_   -- region 15
  refine WL.val (Y.move rfl) (by decide) ?_   -- t76 := move t7
  refine WL.val (Y.load Try.underlying49 rfl hB11.mem (sz_apiRef _) rfl) (by decide) ?_   -- t77 := load 49 t11
  refine WL.call Try.func26 rfl rfl rfl ((by have h9 := fplace_any g rb ra _ ns3 (nm T.e i) _ (hT13.ext hx15) hG3 hn3; rw [hpl] at h9; exact h9)) (by simp) ?_; rintro v w16 ⟨rfl, hx16⟩; have hz16 := hx16.size; have hE := hE.thenExt hx16; have hB4 := hB4.ext hx16; have hB11 := hB11.ext hx16   -- t78 := call F26(t76, t77) : 27,49
  refine WL.val (Y.move rfl) (by decide) ?_   -- t75 := move t78
  refine WL.val (Y.extract rfl rfl) (by decide) ?_   -- t79 := extract t75 0
  refine WL.val (Y.extract rfl rfl) (by decide) ?_   -- t80 := extract t75 1
  refine WL.val (Y.assign rfl) (by decide) ?_   -- t15 := assign t79
  refine WL.val (Y.assign rfl) (by decide) ?_   -- t16 := assign t80
  refine WL.nil ?_
  refine hK22 _ _ ?_; try clear hK22 K22
  refine CW.seq fun K23 hK23 => ?_
  refine CW.seq_testE 93 (False) ?_ ?_
  · refine CW.region ?_
    refine WL.val (Y.move rfl) (by decide) ?_   -- t81 := move t7
    refine WL.call Try.func15 rfl rfl rfl ((by have h9 := ftext_any g rb ra _ ns3 _ ((hT13.ext hx15).ext hx16) hG3 hn3; rw [htx] at h9; exact h9)) (by simp) ?_; rintro v w17 ⟨rfl, hx17⟩; have hz17 := hx17.size; have hE := hE.thenExt hx17; have hB4 := hB4.ext hx17; have hB11 := hB11.ext hx17   -- t82 := call F15(t81) : 27
    refine WL.val (Y.move rfl) (by decide) ?_   -- t83 := move t14
    refine WL.val (Y.neq_string rfl rfl) (by decide) ?_   -- t84 := binOp neq 9 t82 t83 9
    refine WL.val (Y.move rfl) (by decide) ?_   -- t85 := move t84
    first | refine WL.casesD (d := 85) rfl (fun hg85 => ?_) (fun hg85 => ?_) | refine WL.casesND (d := 85) rfl (fun hg85 => ?_) (fun hg85 => ?_) | refine WL.cases (d := 85) rfl (fun hg85 => ?_) (fun hg85 => ?_)
    · -- t85 = T
      refine WL.goff rfl rfl (by decide) ?_   -- t86 := move t16 [if 4=false]
      refine WL.val (Y.pick rfl rfl) (by decide) ?_   -- t87 := pick t85 c(true) t86
      refine WL.val (Y.move rfl) (by decide) ?_   -- t88 := move t87
      refine WL.goff rfl rfl (by decide) ?_   -- t89 := move t7 [if 7=false]
      refine WL.goff rfl rfl (by decide) ?_   -- t90 := load 49 t11 [if 7=false]
      refine WL.goff rfl rfl (by decide) ?_   -- t91 := call F27(t89, t90) : 27,49 [if 7=false]
      refine WL.goff rfl rfl (by decide) ?_   -- t92 := unOp not 4 t91 [if 7=false]
      refine WL.val (Y.pick rfl rfl) (by decide) ?_   -- t93 := pick t88 c(true) t92
      refine WL.nil ⟨⟨_, rfl, ?_⟩, hx17, (by repeat (first | exact Fr.le.refl | refine Fr.le.push rfl ?_))⟩
      first | (simp only [*, Int.natCast_inj, Bool.not_eq_true', decide_eq_false_iff_not, decide_eq_true_eq, not_true_eq_false, not_false_eq_true, true_and, false_and, and_true, and_false, false_or, or_false, true_or, or_true, iff_true, true_iff, iff_false, false_iff]; done) | (simp_all; done) | (refine congrArg Value.bool (Bool.eq_iff_iff.2 ?_); simp_all; done) | (simp_all; omega)
    · -- t85 = F
      refine WL.gval rfl rfl (Y.move rfl) (by decide) ?_   -- t86 := move t16 [if 4=false]
      refine WL.val (Y.pick rfl rfl) (by decide) ?_   -- t87 := pick t85 c(true) t86
      refine WL.val (Y.move rfl) (by decide) ?_   -- t88 := move t87
      first | refine WL.casesD (d := 88) rfl (fun hg88 => ?_) (fun hg88 => ?_) | refine WL.casesND (d := 88) rfl (fun hg88 => ?_) (fun hg88 => ?_) | refine WL.cases (d := 88) rfl (fun hg88 => ?_) (fun hg88 => ?_)
      · -- t88 = T
        refine WL.goff rfl rfl (by decide) ?_   -- t89 := move t7 [if 7=false]
        refine WL.goff rfl rfl (by decide) ?_   -- t90 := load 49 t11 [if 7=false]
        refine WL.goff rfl rfl (by decide) ?_   -- t91 := call F27(t89, t90) : 27,49 [if 7=false]
        refine WL.goff rfl rfl (by decide) ?_   -- t92 := unOp not 4 t91 [if 7=false]
        refine WL.val (Y.pick rfl rfl) (by decide) ?_   -- t93 := pick t88 c(true) t92
        refine WL.nil ⟨⟨_, rfl, ?_⟩, hx17, (by repeat (first | exact Fr.le.refl | refine Fr.le.push rfl ?_))⟩
        first | (simp only [*, Int.natCast_inj, Bool.not_eq_true', decide_eq_false_iff_not, decide_eq_true_eq, not_true_eq_false, not_false_eq_true, true_and, false_and, and_true, and_false, false_or, or_false, true_or, or_true, iff_true, true_iff, iff_false, false_iff]; done) | (simp_all; done) | (refine congrArg Value.bool (Bool.eq_iff_iff.2 ?_); simp_all; done) | (simp_all; omega)
      · -- t88 = F
        refine WL.gval rfl rfl (Y.move rfl) (by decide) ?_   -- t89 := move t7 [if 7=false]
        refine WL.gval rfl rfl (Y.load Try.underlying49 rfl hB11.mem (sz_apiRef _) rfl) (by decide) ?_   -- t90 := load 49 t11 [if 7=false]
        refine WL.gcall rfl rfl Try.func27 rfl rfl rfl ((by have h9 := fhas_any g rb ra _ ns3 (nm T.e i) _ (((hT13.ext hx15).ext hx16).ext hx17) hG3; rw [hhs] at h9; exact h9)) (by decide) ?_; rintro v w18 ⟨rfl, hx18⟩; have hz18 := hx18.size; have hE := hE.thenExt hx18; have hB4 := hB4.ext hx18; have hB11 := hB11.ext hx18   -- t91 := call F27(t89, t90) : 27,49 [if 7=false]
        refine WL.gval rfl rfl (Y.not rfl) (by decide) ?_   -- t92 := unOp not 4 t91 [if 7=false]
        refine WL.val (Y.pick rfl rfl) (by decide) ?_   -- t93 := pick t88 c(true) t92
        refine WL.nil ⟨⟨_, rfl, ?_⟩, (hx17.thenExt hx18), (by repeat (first | exact Fr.le.refl | refine Fr.le.push rfl ?_))⟩
        first | (simp only [*, Int.natCast_inj, Bool.not_eq_true', decide_eq_false_iff_not, decide_eq_true_eq, not_true_eq_false, not_false_eq_true, true_and, false_and, and_true, and_false, false_or, or_false, true_or, or_true, iff_true, true_iff, iff_false, false_iff]; done) | (simp_all; done) | (refine congrArg Value.bool (Bool.eq_iff_iff.2 ?_); simp_all; done) | (simp_all; omega)
  intro w19 hx19; have hz19 := hx19.size; have hE := hE.thenExt hx19; have hB4 := hB4.ext hx19; have hB11 := hB11.ext hx19
  first | refine CW.condD rfl (fun ht24 => ?_) (fun ht24 => ?_) | refine CW.condND rfl (fun ht24 => ?_) (fun ht24 => ?_) | refine CW.condN rfl (fun ht24 => ?_) (fun ht24 => ?_) | refine CW.cond rfl (fun ht24 => ?_) (fun ht24 => ?_)
  · -- then
    refine CW.seq fun K25 hK25 => ?_
    refine CW.region ?_   -- region 17
    refine WL.val (Y.assign rfl) (by decide) ?_   -- t6 := assign c(false)
    refine WL.nil ?_
    refine hK25 _ _ ?_; try clear hK25 K25
    refine CW.ret ⟨_, rfl, ?_⟩
    exact False.elim (by assumption)
  -- else
  refine CW.skip ?_
  refine hK23 _ _ ?_; try clear hK23 K23
  refine CW.seq fun K26 hK26 => ?_
  refine CW.region ?_   -- region 18
  refine WL.val (Y.move rfl) (by decide) ?_   -- t94 := move t7
  refine WL.val (Y.indexAddrAN (i := 1) Try.underlying66 rfl rfl sz0_apiDigest (by decide)) (by decide) ?_   -- t95 := indexAddr 66 t4 c(1:i64)
  refine WL.val (Y.load Try.underlying24 rfl hB4.mem.two1 (sz_apiDigest _) rfl) (by decide) ?_   -- t96 := load 24 t95
  refine WL.val (Y.move rfl) (by decide) ?_   -- t97 := move t13
  refine WL.call Try.func17 rfl rfl rfl (fadd_any g rb ra _ ns3 i1 _ (delOps (nm T.e i)) L3 _ (((hT13.ext hx15).ext hx16).ext hx19) (by rw [he13]; exact hok3) (((((hO13.ext hx15).ext hx16).ext hx19)).sl opC_length (by decide)) (fun _ q hq => by have := hgo' q hq; exact ⟨by omega, fun h => by rcases hf13 q h with h1 | h1; have := (hFl q h1).2; omega; omega⟩)) (by simp) ?_; rintro v98 w20 hR20   -- t98 := call F17(t94, t96, t97) : 27,24,35
  obtain ⟨rfl, ns4, hT20, he20, hc20, _⟩ := hR20
  rw [he13] at hT20 he20
  have hz20 := hc20.size
  have hE := hE.step hc20 (fun q hq => by
    rcases hf13 q hq with h1 | h1
    · have := (hFl q h1).1; omega
    · omega)
  have hB4 := hB4.chg hc20 (fun h => by
    rcases hf13 _ h with h1 | h1
    · have := (hFl _ h1).1; omega
    · omega)
  have hB11 := hB11.chg hc20 (fun h => by
    rcases hf13 _ h with h1 | h1
    · have := (hFl _ h1).2; omega
    · omega)
  obtain ⟨L4, hok4, _⟩ := hok3.addT i1 (delOps (nm T.e i))
  have hG4 : Fu.Good (Fw.els ns4) := by rw [he20]; exact hok4.good
  have hel4 : (Fw.els ns4).length = ns4.length := List.length_map _
  have hn4 : ns4.length ≤ 400001 := by rw [← hel4, he20]; exact hok4.few
  have htx4 : textE (Fw.els ns4) = (textE T.e).take k ++ (textE T.e).drop (k + 1) := by rw [he20]; exact (hag i1).2.trans hdt
  have hln4 : ((textE T.e).take k ++ (textE T.e).drop (k + 1)).length = liveN ns4 := by
    rw [← htx4, textE_length]
    exact hG4.seen_length
  refine WL.nil ?_
  refine hK26 _ _ ?_; try clear hK26 K26
  refine CW.seq fun K27 hK27 => ?_
  refine CW.region ?_   -- region 19
  refine WL.val (Y.move rfl) (by decide) ?_   -- t99 := move t7
  refine WL.call Try.func15 rfl rfl rfl ((by have h9 := ftext_any g rb ra _ ns4 _ hT20 hG4 hn4; rw [htx4] at h9; exact h9)) (by simp) ?_; rintro v w21 ⟨rfl, hx21⟩; have hz21 := hx21.size; have hE := hE.thenExt hx21; have hB4 := hB4.ext hx21; have hB11 := hB11.ext hx21   -- t100 := call F15(t99) : 27
  refine WL.val (Y.move rfl) (by decide) ?_   -- t101 := move t14
  refine WL.val (Y.eql_string rfl rfl) (by decide) ?_   -- t102 := binOp eql 9 t100 t101 9
  refine WL.val (Y.move rfl) (by decide) ?_   -- t103 := move t102
  first | refine WL.casesD (d := 103) rfl (fun hg103 => ?_) (fun hg103 => ?_) | refine WL.casesND (d := 103) rfl (fun hg103 => ?_) (fun hg103 => ?_) | refine WL.cases (d := 103) rfl (fun hg103 => ?_) (fun hg103 => ?_)
  · -- t103 = T
    refine WL.gval rfl rfl (Y.move rfl) (by decide) ?_   -- t104 := move t7 [if 4=true]
    refine WL.gcall rfl rfl Try.func14 rfl rfl rfl (flen_any g rb ra _ ns4 _ (hT20.ext hx21)) (by decide) ?_; rintro v w22 ⟨rfl, hx22⟩; have hz22 := hx22.size; have hE := hE.thenExt hx22; have hB4 := hB4.ext hx22; have hB11 := hB11.ext hx22   -- t105 := call F14(t104) : 27 [if 4=true]
    refine WL.gval rfl rfl (Y.move rfl) (by decide) ?_   -- t106 := move t14 [if 4=true]
    refine WL.gval rfl rfl (Y.len_string Try.underlying9 rfl) (by decide) ?_   -- t107 := call len(t106) : 9 [if 4=true]
    refine WL.gval rfl rfl (Y.eql rfl rfl) (by decide) ?_   -- t108 := binOp eql 3 t105 t107 3 [if 4=true]
    refine WL.val (Y.pick rfl rfl) (by decide) ?_   -- t109 := pick t103 t108 c(false)
    refine WL.val (Y.assign rfl) (by decide) ?_   -- t6 := assign t109
    refine WL.nil ?_
    refine hK27 _ _ ?_; try clear hK27 K27
    refine CW.ret ⟨_, rfl, ?_⟩
    exact ⟨by simp [bs_size, hln4], hE⟩
  · -- t103 = F
    refine WL.goff rfl rfl (by decide) ?_   -- t104 := move t7 [if 4=true]
    refine WL.goff rfl rfl (by decide) ?_   -- t105 := call F14(t104) : 27 [if 4=true]
    refine WL.goff rfl rfl (by decide) ?_   -- t106 := move t14 [if 4=true]
    refine WL.goff rfl rfl (by decide) ?_   -- t107 := call len(t106) : 9 [if 4=true]
    refine WL.goff rfl rfl (by decide) ?_   -- t108 := binOp eql 3 t105 t107 3 [if 4=true]
    refine WL.val (Y.pick rfl rfl) (by decide) ?_   -- t109 := pick t103 t108 c(false)
    refine WL.val (Y.assign rfl) (by decide) ?_   -- t6 := assign t109
    refine WL.nil ?_
    refine hK27 _ _ ?_; try clear hK27 K27
    refine CW.ret ⟨_, rfl, ?_⟩
    simp_all
end Go.Proofs.Ytffkmlkdlhkkmaa
