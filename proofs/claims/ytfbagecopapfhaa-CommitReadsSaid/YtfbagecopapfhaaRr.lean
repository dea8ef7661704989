/- The reference's readers, walked: GetNum, GetText, digest. No condition. -/
import Derived.Test.YtfbagecopapfhaaKo
set_option linter.unusedSimpArgs false
set_option linter.unusedVariables false
namespace Go.Fw
open Go.RowKit
section
variable {P : Program} {n : NN} {fr : Fr} {w : World} {ty : TypeId}
theorem Y.remN {x y : Operand} {k : IntKind} {p q : Nat} {t t' : TypeId} (hx : ev fr x = some (.int k (p : Int))) (hy : ev fr y = some (.int k (q : Int))) (h : q ≠ 0) : Yw P n fr (.binOp .rem t x y t') ty w (.int k ((p % q : Nat) : Int)) w := Y.rem hx hy (by omega)
theorem Y.quoN {x y : Operand} {p q : Nat} {t t' : TypeId} (hx : ev fr x = some (.int .i64 (p : Int))) (hy : ev fr y = some (.int .i64 (q : Int))) (h : q ≠ 0) (hp : p ≤ 9223372036854775807 := by omega) : Yw P n fr (.binOp .quo t x y t') ty w (.int .i64 ((p / q : Nat) : Int)) w := by
  have h1 := Y.quo (P := P) (n := n) (w := w) (ty := ty) (t := t) (t' := t') hx hy (by omega)
  have e : IntKind.i64.wrap ((p : Int).tdiv (q : Int)) = ((p / q : Nat) : Int) := by
    rw [← Int.ofNat_tdiv]
    have h2 := Nat.div_le_self p q
    generalize p / q = r at h2
    exact wrap_i64_in ⟨by omega, by omega⟩
  rwa [e] at h1
theorem Y.slice_str {x lo hi : Operand} {s : ByteArray} {t : TypeId} {i j : Nat} {ki kj : IntKind} {zi zj : Int} (hT : P.underlying t = some .string) (hx : ev fr x = some (.string s)) (hlo : ev fr lo = some (.int ki zi)) (hhi : ev fr hi = some (.int kj zj)) (hi' : zi = (i : Int)) (hj' : zj = (j : Int)) (h1 : i ≤ j) (h2 : j ≤ s.size) :
    Yw P n fr (.slice t x (some lo) (some hi) none) ty w (.string (s.extract i j)) w := fun b o' ho _ ha => by
  subst hi'; subst hj'
  have e1 : (0 : Int) ≤ (i : Int) := by omega
  have e2 : (0 : Int) ≤ (j : Int) := by omega
  simp [execOp, ho, ha.ev hx, ha.ev hlo, ha.ev hhi, Instr.sliceAt, Instr.slice, run_underlying hT, Instr.sliceBounds, Instr.sliceBound, asIntOf, e1, e2, h1, h2]
end
theorem extract_bs {s : ByteArray} {i j : Nat} (h : j ≤ s.size) : s.extract i j = bs ((s.toList.drop i).take (j - i)) := by
  apply ByteArray.ext
  rw [ByteArray.data_extract]
  have e : s.toList = s.data.toList := by rw [ByteArray.toList_eq]
  rw [e]
  show s.data.extract i j = ((s.data.toList.drop i).take (j - i)).toArray
  apply Array.ext'
  simp [Array.toList_extract, List.extract_eq_take_drop]
end Go.Fw
namespace Go.Proofs.Ytfbagecopapfhaa
open Go.RowKit Go.Fw Go.Pl

theorem rGetNum_any (s : ByteArray) (at_ : Nat) (w : World) (hsm : s.size ≤ 9223372036854775000) (hat : at_ ≤ s.size) : Calls Try.prog 40 #[.string s, .int .i64 (at_ : Int)] w (Ret fun v w' => v = gnumV s.toList at_ ∧ Ext w w') := by
  have hsl := toList_length s
  refine calls_of_CW 59 [4, 5, 6] [(0, .string s), (1, .int .i64 (at_ : Int))] Try.func40 rfl rfl rfl (by simp) args2 ?_
  refine CW.seq fun K1 hK1 => ?_
  refine CW.region ?_   -- region 0
  refine WL.val (Y.assign rfl) (by decide) ?_   -- t4 := assign c(0:i64)
  refine WL.val (Y.assign rfl) (by decide) ?_   -- t5 := assign c(0:i64)
  refine WL.val (Y.assign rfl) (by decide) ?_   -- t6 := assign c(0:i64)
  refine WL.nil ?_
  refine hK1 _ _ ?_; try clear hK1 K1
  refine CW.seq fun K2 hK2 => ?_
  refine CW.seq_test 17 ((at_ : Int) < 0 ∨ (s.size : Int) < at_) ?_ ?_
  · refine CW.region ?_
    refine WL.val (Y.move rfl) (by decide) ?_   -- t10 := move t1
    refine WL.val (Y.lss rfl rfl) (by decide) ?_   -- t11 := binOp lss 3 t10 c(0:i64) 3
    refine WL.val (Y.move rfl) (by decide) ?_   -- t12 := move t11
    first | refine WL.casesD (d := 12) rfl (fun hg12 => ?_) (fun hg12 => ?_) | refine WL.casesND (d := 12) rfl (fun hg12 => ?_) (fun hg12 => ?_) | refine WL.cases (d := 12) rfl (fun hg12 => ?_) (fun hg12 => ?_)
    · -- t12 = T
      refine WL.goff rfl rfl (by decide) ?_   -- t13 := move t1 [if 2=false]
      refine WL.goff rfl rfl (by decide) ?_   -- t14 := move t0 [if 2=false]
      refine WL.goff rfl rfl (by decide) ?_   -- t15 := call len(t14) : 9 [if 2=false]
      refine WL.goff rfl rfl (by decide) ?_   -- t16 := binOp gtr 3 t13 t15 3 [if 2=false]
      refine WL.val (Y.pick rfl rfl) (by decide) ?_   -- t17 := pick t12 c(true) t16
      refine WL.nil ⟨⟨_, rfl, ?_⟩, rfl, (by repeat (first | exact Fr.le.refl | refine Fr.le.push rfl ?_))⟩
      first | (simp only [*, Bool.not_eq_true', decide_eq_false_iff_not, decide_eq_true_eq, not_true_eq_false, not_false_eq_true, true_and, false_and, and_true, and_false, false_or, or_false, true_or, or_true, iff_true, true_iff, iff_false, false_iff]; done) | (simp_all; done) | (simp_all; omega)
    · -- t12 = F
      refine WL.gval rfl rfl (Y.move rfl) (by decide) ?_   -- t13 := move t1 [if 2=false]
      refine WL.gval rfl rfl (Y.move rfl) (by decide) ?_   -- t14 := move t0 [if 2=false]
      refine WL.gval rfl rfl (Y.len_string Try.underlying9 rfl) (by decide) ?_   -- t15 := call len(t14) : 9 [if 2=false]
      refine WL.gval rfl rfl (Y.gtr rfl rfl) (by decide) ?_   -- t16 := binOp gtr 3 t13 t15 3 [if 2=false]
      refine WL.val (Y.pick rfl rfl) (by decide) ?_   -- t17 := pick t12 c(true) t16
      refine WL.nil ⟨⟨_, rfl, ?_⟩, rfl, (by repeat (first | exact Fr.le.refl | refine Fr.le.push rfl ?_))⟩
      first | (simp only [*, Bool.not_eq_true', decide_eq_false_iff_not, decide_eq_true_eq, not_true_eq_false, not_false_eq_true, true_and, false_and, and_true, and_false, false_or, or_false, true_or, or_true, iff_true, true_iff, iff_false, false_iff]; done) | (simp_all; done) | (simp_all; omega)
  first | refine CW.condD rfl (fun ht3 => ?_) (fun ht3 => ?_) | refine CW.condND rfl (fun ht3 => ?_) (fun ht3 => ?_) | refine CW.condN rfl (fun ht3 => ?_) (fun ht3 => ?_) | refine CW.cond rfl (fun ht3 => ?_) (fun ht3 => ?_)
  · -- then
    refine CW.seq fun K4 hK4 => ?_
    refine CW.region ?_   -- region 2
    refine WL.val (Y.assign rfl) (by decide) ?_   -- t4 := assign c(0:i64)
    refine WL.val (Y.assign rfl) (by decide) ?_   -- t5 := assign c(0:i64)
    refine WL.val (Y.assign rfl) (by decide) ?_   -- t6 := assign c(1:i64)
    refine WL.nil ?_
    refine hK4 _ _ ?_; try clear hK4 K4
    refine CW.ret ⟨_, rfl, ?_⟩
    exfalso; omega
  -- else
  refine CW.skip ?_
  refine hK2 _ _ ?_; try clear hK2 K2
  refine CW.seq fun K5 hK5 => ?_
  refine CW.region ?_   -- region 3
  refine WL.val (Y.assign rfl) (by decide) ?_   -- t7 := assign c(0:i64)
  refine WL.nil ?_
  refine hK5 _ _ ?_; try clear hK5 K5
  refine CW.seq fun K6 hK6 => ?_
  refine CW.seq fun K7 hK7 => ?_
  refine CW.region ?_   -- region 4
  refine WL.val (Y.assign rfl) (by decide) ?_   -- t8 := assign c(0:i64)
  refine WL.nil ?_
  refine hK7 _ _ ?_; try clear hK7 K7
  refine CW.block ?_   -- block 0
  refine CW.loop (X := Nat × Nat) (fun x => [(0, .string s), (1, .int .i64 (at_ : Int)), (7, .int .i64 (x.2 : Int)), (8, .int .i64 (x.1 : Int))]) (fun x w0 => x.1 ≤ 8 ∧ x.2 < 128 ^ x.1 ∧ gn 0 0 (s.toList.drop at_) = gn x.1 x.2 (s.toList.drop (at_ + x.1)) ∧ Ext w w0) (fun x => 9 - x.1) (0, 0) (by repeat (first | exact Fr.le.nil | refine Fr.le.cons rfl ?_)) ⟨Nat.zero_le _, (by show 0 < 128 ^ 0; decide), rfl, Chg.refl⟩ ?_
  intro x w1 hl1
  obtain ⟨i, t⟩ := x
  dsimp only at hl1 ⊢
  obtain ⟨hi, hs, hg, hL1⟩ := hl1
  have hV := gnumV_of hg
  refine CW.seq fun K8 hK8 => ?_
  refine CW.seq fun K9 hK9 => ?_
  refine CW.region ?_   -- region 5
  refine WL.val (Y.move rfl) (by decide) ?_   -- t18 := move t8
  refine WL.val (Y.move rfl) (by decide) ?_   -- t19 := move t0
  refine WL.val (Y.len_string Try.underlying9 rfl) (by decide) ?_   -- t20 := call len(t19) : 9
  refine WL.val (Y.move rfl) (by decide) ?_   -- t21 := move t1
  refine WL.val (Y.sub rfl rfl ⟨by omega, by omega⟩) (by decide) ?_   -- t22 := binOp sub 3 t20 t21 3
  refine WL.val (Y.lss rfl rfl) (by decide) ?_   -- t23 := binOp lss 3 t18 t22 3
  refine WL.nil ?_
  refine hK9 _ _ ?_; try clear hK9 K9
  first | refine CW.condD rfl (fun ht10 => ?_) (fun ht10 => ?_) | refine CW.condND rfl (fun ht10 => ?_) (fun ht10 => ?_) | refine CW.condN rfl (fun ht10 => ?_) (fun ht10 => ?_) | refine CW.cond rfl (fun ht10 => ?_) (fun ht10 => ?_)
  · -- then
    refine CW.skip ?_
    refine hK8 _ _ ?_; try clear hK8 K8
    refine CW.seq fun K11 hK11 => ?_
    refine CW.block ?_   -- block 1
    refine CW.seq fun K12 hK12 => ?_
    refine CW.region ?_   -- region 7
    refine WL.val (Y.move rfl) (by decide) ?_   -- t26 := move t0
    refine WL.val (Y.move rfl) (by decide) ?_   -- t27 := move t1
    refine WL.val (Y.move rfl) (by decide) ?_   -- t28 := move t8
    refine WL.val (Y.add rfl rfl ⟨by omega, by omega⟩) (by decide) ?_   -- t29 := binOp add 3 t27 t28 3
    have hb := get_toList (s := s) (i := at_ + i) (by omega)
    rw [drop_at hb, gn] at hV hg
    have hc := s[at_ + i].toNat_lt
    have hlh := (low_high hs (y := s[at_ + i].toNat % 128) (by omega) hi).2
    refine WL.val (Y.index_string (i := at_ + i) Try.underlying9 rfl rfl (by omega)) (by decide) ?_   -- t30 := index 9 t26 t29
    refine WL.val (Y.conv_nat Try.underlying5 Try.underlying3 rfl (by omega)) (by decide) ?_   -- t31 := convert 5 3 t30
    refine WL.val (Y.assign rfl) (by decide) ?_   -- t9 := assign t31
    refine WL.nil ?_
    refine hK12 _ _ ?_; try clear hK12 K12
    refine CW.seq fun K13 hK13 => ?_
    refine CW.seq_test 37 (128 ≤ s[at_ + i].toNat ∧ i + 1 = 9) ?_ ?_
    · refine CW.region ?_
      refine WL.val (Y.move rfl) (by decide) ?_   -- t32 := move t9
      refine WL.val (Y.geq rfl rfl) (by decide) ?_   -- t33 := binOp geq 3 t32 c(128:i64) 3
      refine WL.val (Y.move rfl) (by decide) ?_   -- t34 := move t33
      first | refine WL.casesD (d := 34) rfl (fun hg34 => ?_) (fun hg34 => ?_) | refine WL.casesND (d := 34) rfl (fun hg34 => ?_) (fun hg34 => ?_) | refine WL.cases (d := 34) rfl (fun hg34 => ?_) (fun hg34 => ?_)
      · -- t34 = T
        refine WL.gval rfl rfl (Y.move rfl) (by decide) ?_   -- t35 := move t8 [if 2=true]
        refine WL.gval rfl rfl (Y.eql rfl rfl) (by decide) ?_   -- t36 := binOp eql 3 t35 c(8:i64) 3 [if 2=true]
        refine WL.val (Y.pick rfl rfl) (by decide) ?_   -- t37 := pick t34 t36 c(false)
        refine WL.nil ⟨⟨_, rfl, ?_⟩, rfl, (by repeat (first | exact Fr.le.refl | refine Fr.le.push rfl ?_))⟩
        first | (simp only [*, Bool.not_eq_true', decide_eq_false_iff_not, decide_eq_true_eq, not_true_eq_false, not_false_eq_true, true_and, false_and, and_true, and_false, false_or, or_false, true_or, or_true, iff_true, true_iff, iff_false, false_iff]; done) | (simp_all; done) | (simp_all; omega)
      · -- t34 = F
        refine WL.goff rfl rfl (by decide) ?_   -- t35 := move t8 [if 2=true]
        refine WL.goff rfl rfl (by decide) ?_   -- t36 := binOp eql 3 t35 c(8:i64) 3 [if 2=true]
        refine WL.val (Y.pick rfl rfl) (by decide) ?_   -- t37 := pick t34 t36 c(false)
        refine WL.nil ⟨⟨_, rfl, ?_⟩, rfl, (by repeat (first | exact Fr.le.refl | refine Fr.le.push rfl ?_))⟩
        first | (simp only [*, Bool.not_eq_true', decide_eq_false_iff_not, decide_eq_true_eq, not_true_eq_false, not_false_eq_true, true_and, false_and, and_true, and_false, false_or, or_false, true_or, or_true, iff_true, true_iff, iff_false, false_iff]; done) | (simp_all; done) | (simp_all; omega)
    first | refine CW.condD rfl (fun ht14 => ?_) (fun ht14 => ?_) | refine CW.condND rfl (fun ht14 => ?_) (fun ht14 => ?_) | refine CW.condN rfl (fun ht14 => ?_) (fun ht14 => ?_) | refine CW.cond rfl (fun ht14 => ?_) (fun ht14 => ?_)
    · -- then
      refine CW.seq fun K15 hK15 => ?_
      refine CW.region ?_   -- region 9
      refine WL.val (Y.assign rfl) (by decide) ?_   -- t4 := assign c(0:i64)
      refine WL.val (Y.assign rfl) (by decide) ?_   -- t5 := assign c(0:i64)
      refine WL.val (Y.assign rfl) (by decide) ?_   -- t6 := assign c(9:i64)
      refine WL.nil ?_
      refine hK15 _ _ ?_; try clear hK15 K15
      refine CW.ret ⟨_, rfl, ?_⟩
      exact ⟨by rw [hV, if_pos (by assumption)], hL1⟩
    -- else
    refine CW.skip ?_
    refine hK13 _ _ ?_; try clear hK13 K13
    refine CW.seq fun K16 hK16 => ?_
    refine CW.seq_test 43 (s[at_ + i].toNat = 0 ∧ 0 < i) ?_ ?_
    · refine CW.region ?_
      refine WL.val (Y.move rfl) (by decide) ?_   -- t38 := move t9
      refine WL.val (Y.eql rfl rfl) (by decide) ?_   -- t39 := binOp eql 3 t38 c(0:i64) 3
      refine WL.val (Y.move rfl) (by decide) ?_   -- t40 := move t39
      first | refine WL.casesD (d := 40) rfl (fun hg40 => ?_) (fun hg40 => ?_) | refine WL.casesND (d := 40) rfl (fun hg40 => ?_) (fun hg40 => ?_) | refine WL.cases (d := 40) rfl (fun hg40 => ?_) (fun hg40 => ?_)
      · -- t40 = T
        refine WL.gval rfl rfl (Y.move rfl) (by decide) ?_   -- t41 := move t8 [if 2=true]
        refine WL.gval rfl rfl (Y.gtr rfl rfl) (by decide) ?_   -- t42 := binOp gtr 3 t41 c(0:i64) 3 [if 2=true]
        refine WL.val (Y.pick rfl rfl) (by decide) ?_   -- t43 := pick t40 t42 c(false)
        refine WL.nil ⟨⟨_, rfl, ?_⟩, rfl, (by repeat (first | exact Fr.le.refl | refine Fr.le.push rfl ?_))⟩
        first | (simp only [*, Bool.not_eq_true', decide_eq_false_iff_not, decide_eq_true_eq, not_true_eq_false, not_false_eq_true, true_and, false_and, and_true, and_false, false_or, or_false, true_or, or_true, iff_true, true_iff, iff_false, false_iff]; done) | (simp_all; done) | (simp_all; omega)
      · -- t40 = F
        refine WL.goff rfl rfl (by decide) ?_   -- t41 := move t8 [if 2=true]
        refine WL.goff rfl rfl (by decide) ?_   -- t42 := binOp gtr 3 t41 c(0:i64) 3 [if 2=true]
        refine WL.val (Y.pick rfl rfl) (by decide) ?_   -- t43 := pick t40 t42 c(false)
        refine WL.nil ⟨⟨_, rfl, ?_⟩, rfl, (by repeat (first | exact Fr.le.refl | refine Fr.le.push rfl ?_))⟩
        first | (simp only [*, Bool.not_eq_true', decide_eq_false_iff_not, decide_eq_true_eq, not_true_eq_false, not_false_eq_true, true_and, false_and, and_true, and_false, false_or, or_false, true_or, or_true, iff_true, true_iff, iff_false, false_iff]; done) | (simp_all; done) | (simp_all; omega)
    first | refine CW.condD rfl (fun ht17 => ?_) (fun ht17 => ?_) | refine CW.condND rfl (fun ht17 => ?_) (fun ht17 => ?_) | refine CW.condN rfl (fun ht17 => ?_) (fun ht17 => ?_) | refine CW.cond rfl (fun ht17 => ?_) (fun ht17 => ?_)
    · -- then
      refine CW.seq fun K18 hK18 => ?_
      refine CW.region ?_   -- region 11
      refine WL.val (Y.assign rfl) (by decide) ?_   -- t4 := assign c(0:i64)
      refine WL.val (Y.assign rfl) (by decide) ?_   -- t5 := assign c(0:i64)
      refine WL.val (Y.assign rfl) (by decide) ?_   -- t6 := assign c(7:i64)
      refine WL.nil ?_
      refine hK18 _ _ ?_; try clear hK18 K18
      refine CW.ret ⟨_, rfl, ?_⟩
      exact ⟨by rw [hV, if_neg (by assumption), if_pos (by assumption)], hL1⟩
    -- else
    refine CW.skip ?_
    refine hK16 _ _ ?_; try clear hK16 K16
    refine CW.seq fun K19 hK19 => ?_
    refine CW.region ?_   -- region 12
    refine WL.val (Y.move rfl) (by decide) ?_   -- t44 := move t7
    refine WL.val (Y.move rfl) (by decide) ?_   -- t45 := move t9
    refine WL.val (Y.remN (q := 128) rfl rfl (by decide)) (by decide) ?_   -- t46 := binOp rem 3 t45 c(128:i64) 3
    refine WL.val (Y.move rfl) (by decide) ?_   -- t47 := move t8
    refine WL.val (Y.mul rfl rfl ⟨by omega, by omega⟩) (by decide) ?_   -- t48 := binOp mul 3 c(7:i64) t47 3
    refine WL.val (Y.conv_int Try.underlying3 Try.underlying90 rfl) (by decide) ?_   -- t49 := convert 3 90 t48
    refine WL.val (Y.shl rfl rfl (r := ((s[at_ + i].toNat % 128 * 128 ^ i : Nat) : Int)) (by rw [IntWalk.u64_in _ ⟨by omega, by omega⟩]; omega) (by rw [IntWalk.u64_in _ ⟨by omega, by omega⟩]; exact shl_at (by omega) hi)) (by decide) ?_   -- t50 := binOp shl 3 t46 t49 90
    refine WL.val (Y.add rfl rfl ⟨by omega, by omega⟩) (by decide) ?_   -- t51 := binOp add 3 t44 t50 3
    refine WL.val (Y.assign rfl) (by decide) ?_   -- t7 := assign t51
    refine WL.nil ?_
    refine hK19 _ _ ?_; try clear hK19 K19
    refine CW.seq fun K20 hK20 => ?_
    refine CW.region ?_   -- region 13
    refine WL.val (Y.move rfl) (by decide) ?_   -- t52 := move t9
    refine WL.val (Y.lss rfl rfl) (by decide) ?_   -- t53 := binOp lss 3 t52 c(128:i64) 3
    refine WL.nil ?_
    refine hK20 _ _ ?_; try clear hK20 K20
    first | refine CW.condD rfl (fun ht21 => ?_) (fun ht21 => ?_) | refine CW.condND rfl (fun ht21 => ?_) (fun ht21 => ?_) | refine CW.condN rfl (fun ht21 => ?_) (fun ht21 => ?_) | refine CW.cond rfl (fun ht21 => ?_) (fun ht21 => ?_)
    · -- then
      refine CW.seq fun K22 hK22 => ?_
      refine CW.region ?_   -- region 14
      refine WL.val (Y.move rfl) (by decide) ?_   -- t54 := move t7
      refine WL.val (Y.move rfl) (by decide) ?_   -- t55 := move t1
      refine WL.val (Y.move rfl) (by decide) ?_   -- t56 := move t8
      refine WL.val (Y.add rfl rfl ⟨by omega, by omega⟩) (by decide) ?_   -- t57 := binOp add 3 t55 t56 3
      refine WL.val (Y.add rfl rfl ⟨by omega, by omega⟩) (by decide) ?_   -- t58 := binOp add 3 t57 c(1:i64) 3
      refine WL.val (Y.assign rfl) (by decide) ?_   -- t4 := assign t54
      refine WL.val (Y.assign rfl) (by decide) ?_   -- t5 := assign t58
      refine WL.val (Y.assign rfl) (by decide) ?_   -- t6 := assign c(0:i64)
      refine WL.nil ?_
      refine hK22 _ _ ?_; try clear hK22 K22
      refine CW.ret ⟨_, rfl, ?_⟩
      exact ⟨by rw [hV, if_neg (by assumption), if_neg (by assumption), if_neg (by omega)]; rfl, hL1⟩
    -- else
    refine CW.skip ?_
    refine hK11 _ _ ?_; try clear hK11 K11
    refine CW.region ?_   -- region 6
    refine WL.val (Y.move rfl) (by decide) ?_   -- t24 := move t8
    refine WL.val (Y.add rfl rfl ⟨by omega, by omega⟩) (by decide) ?_   -- t25 := binOp add 3 t24 c(1:i64) 3
    refine WL.val (Y.assign rfl) (by decide) ?_   -- t8 := assign t25
    refine WL.nil ?_
    refine ⟨(i + 1, t + s[at_ + i].toNat % 128 * 128 ^ i), by show 9 - (i + 1) < 9 - i; omega, (by repeat (first | exact Fr.le.nil | refine Fr.le.cons rfl ?_)), by show i + 1 ≤ 8; omega, (low_high hs (by omega) hi).1, ?_, hL1⟩
    show gn 0 0 _ = gn (i + 1) (t + s[at_ + i].toNat % 128 * 128 ^ i) (s.toList.drop (at_ + (i + 1)))
    rw [hg, if_neg (by assumption), if_neg (by assumption), if_pos (by omega)]
    rfl
  -- else
  refine CW.exit ?_   -- exit 0
  refine hK6 _ _ ?_; try clear hK6 K6
  refine CW.seq fun K23 hK23 => ?_
  refine CW.region ?_   -- region 15
  refine WL.val (Y.assign rfl) (by decide) ?_   -- t4 := assign c(0:i64)
  refine WL.val (Y.assign rfl) (by decide) ?_   -- t5 := assign c(0:i64)
  refine WL.val (Y.assign rfl) (by decide) ?_   -- t6 := assign c(8:i64)
  refine WL.nil ?_
  refine hK23 _ _ ?_; try clear hK23 K23
  refine CW.ret ⟨_, rfl, ?_⟩
  exact ⟨by rw [hV, List.drop_of_length_le (by omega)]; rfl, hL1⟩
theorem rGetNum_t (s : ByteArray) (at_ : Nat) (w : World) (hsm : s.size ≤ 9223372036854775000) (hat : at_ ≤ s.size) : Calls Try.prog 40 #[.string s, .int .i64 (at_ : Int)] w (Ret fun v w' => v = .tuple #[.int .i64 (gN s.toList at_), .int .i64 (gX s.toList at_), .int .i64 (gE s.toList at_)] ∧ Ext w w') := by
  rw [← gnumV_t]; exact rGetNum_any s at_ w hsm hat

theorem rGetText_any (s : ByteArray) (at_ : Nat) (w : World) (hsm : s.size ≤ 9223372036854775000) (hat : at_ ≤ s.size) : Calls Try.prog 58 #[.string s, .int .i64 (at_ : Int)] w (Ret fun v w' => v = .tuple #[.string (bs (gtT s.toList at_)), .int .i64 (gtX s.toList at_), .int .i64 (gtE s.toList at_)] ∧ Ext w w') := by
  have hsl := toList_length s
  refine calls_of_CW 37 [4, 5, 6] [(0, .string s), (1, .int .i64 (at_ : Int))] Try.func58 rfl rfl rfl (by simp) args2 ?_
  refine CW.seq fun K1 hK1 => ?_
  refine CW.region ?_   -- region 0
  refine WL.val (Y.assign rfl) (by decide) ?_   -- t4 := assign c(STR)
  refine WL.val (Y.assign rfl) (by decide) ?_   -- t5 := assign c(0:i64)
  refine WL.val (Y.assign rfl) (by decide) ?_   -- t6 := assign c(0:i64)
  refine WL.nil ?_
  refine hK1 _ _ ?_; try clear hK1 K1
  refine CW.seq fun K2 hK2 => ?_
  refine CW.region ?_   -- region 1
  refine WL.val (Y.move rfl) (by decide) ?_   -- t11 := move t0
  refine WL.val (Y.move rfl) (by decide) ?_   -- t12 := move t1
  refine WL.call Try.func40 rfl rfl rfl ((rGetNum_t s at_ _ hsm hat)) (by simp) ?_; rintro v w1 ⟨rfl, hx1⟩   -- t13 := call F40(t11, t12) : 9,3
  refine WL.val (Y.move rfl) (by decide) ?_   -- t10 := move t13
  refine WL.val (Y.extract rfl rfl) (by decide) ?_   -- t14 := extract t10 0
  refine WL.val (Y.extract rfl rfl) (by decide) ?_   -- t15 := extract t10 1
  refine WL.val (Y.extract rfl rfl) (by decide) ?_   -- t16 := extract t10 2
  refine WL.val (Y.assign rfl) (by decide) ?_   -- t7 := assign t14
  refine WL.val (Y.assign rfl) (by decide) ?_   -- t8 := assign t15
  refine WL.val (Y.assign rfl) (by decide) ?_   -- t9 := assign t16
  refine WL.nil ?_
  refine hK2 _ _ ?_; try clear hK2 K2
  refine CW.seq fun K3 hK3 => ?_
  refine CW.seq fun K4 hK4 => ?_
  refine CW.region ?_   -- region 2
  refine WL.val (Y.move rfl) (by decide) ?_   -- t17 := move t9
  refine WL.val (Y.neq rfl rfl) (by decide) ?_   -- t18 := binOp neq 3 t17 c(0:i64) 3
  refine WL.nil ?_
  refine hK4 _ _ ?_; try clear hK4 K4
  first | refine CW.condD rfl (fun ht5 => ?_) (fun ht5 => ?_) | refine CW.condND rfl (fun ht5 => ?_) (fun ht5 => ?_) | refine CW.condN rfl (fun ht5 => ?_) (fun ht5 => ?_) | refine CW.cond rfl (fun ht5 => ?_) (fun ht5 => ?_)
  · -- then
    refine CW.seq fun K6 hK6 => ?_
    refine CW.region ?_   -- region 3
    refine WL.val (Y.move rfl) (by decide) ?_   -- t19 := move t9
    refine WL.val (Y.assign rfl) (by decide) ?_   -- t4 := assign c(STR)
    refine WL.val (Y.assign rfl) (by decide) ?_   -- t5 := assign c(0:i64)
    refine WL.val (Y.assign rfl) (by decide) ?_   -- t6 := assign t19
    refine WL.nil ?_
    refine hK6 _ _ ?_; try clear hK6 K6
    refine CW.ret ⟨_, rfl, ?_⟩
    have h2 := gt_of_error (gtext_bad (gE_ne ht5).1)
    exact ⟨by rw [h2.1, h2.2.1, h2.2.2]; rfl, hx1⟩
  -- else
  refine CW.skip ?_
  refine hK3 _ _ ?_; try clear hK3 K3
  refine CW.seq fun K7 hK7 => ?_
  refine CW.seq fun K8 hK8 => ?_
  obtain ⟨n, nx, hg, hN, hX⟩ := gE_zero (Decidable.not_not.1 ht5)
  rw [hN, hX]
  have hlen := gnum_len hg (by omega)
  refine CW.region ?_   -- region 4
  refine WL.val (Y.move rfl) (by decide) ?_   -- t20 := move t7
  refine WL.val (Y.gtr rfl rfl) (by decide) ?_   -- t21 := binOp gtr 3 t20 c(131072:i64) 3
  refine WL.nil ?_
  refine hK8 _ _ ?_; try clear hK8 K8
  first | refine CW.condD rfl (fun ht9 => ?_) (fun ht9 => ?_) | refine CW.condND rfl (fun ht9 => ?_) (fun ht9 => ?_) | refine CW.condN rfl (fun ht9 => ?_) (fun ht9 => ?_) | refine CW.cond rfl (fun ht9 => ?_) (fun ht9 => ?_)
  · -- then
    refine CW.seq fun K10 hK10 => ?_
    refine CW.region ?_   -- region 5
    refine WL.val (Y.assign rfl) (by decide) ?_   -- t4 := assign c(STR)
    refine WL.val (Y.assign rfl) (by decide) ?_   -- t5 := assign c(0:i64)
    refine WL.val (Y.assign rfl) (by decide) ?_   -- t6 := assign c(3:i64)
    refine WL.nil ?_
    refine hK10 _ _ ?_; try clear hK10 K10
    refine CW.ret ⟨_, rfl, ?_⟩
    have h2 := gt_of_error (bs := s.toList) (at_ := at_) (e := 3) (by rw [gtext_num hg, if_pos (by omega)])
    exact ⟨by rw [h2.1, h2.2.1, h2.2.2]; rfl, hx1⟩
  -- else
  refine CW.skip ?_
  refine hK7 _ _ ?_; try clear hK7 K7
  refine CW.seq fun K11 hK11 => ?_
  refine CW.seq fun K12 hK12 => ?_
  refine CW.region ?_   -- region 6
  refine WL.val (Y.move rfl) (by decide) ?_   -- t22 := move t7
  refine WL.val (Y.move rfl) (by decide) ?_   -- t23 := move t0
  refine WL.val (Y.len_string Try.underlying9 rfl) (by decide) ?_   -- t24 := call len(t23) : 9
  refine WL.val (Y.move rfl) (by decide) ?_   -- t25 := move t8
  refine WL.val (Y.sub rfl rfl ⟨by omega, by omega⟩) (by decide) ?_   -- t26 := binOp sub 3 t24 t25 3
  refine WL.val (Y.gtr rfl rfl) (by decide) ?_   -- t27 := binOp gtr 3 t22 t26 3
  refine WL.nil ?_
  refine hK12 _ _ ?_; try clear hK12 K12
  first | refine CW.condD rfl (fun ht13 => ?_) (fun ht13 => ?_) | refine CW.condND rfl (fun ht13 => ?_) (fun ht13 => ?_) | refine CW.condN rfl (fun ht13 => ?_) (fun ht13 => ?_) | refine CW.cond rfl (fun ht13 => ?_) (fun ht13 => ?_)
  · -- then
    refine CW.seq fun K14 hK14 => ?_
    refine CW.region ?_   -- region 7
    refine WL.val (Y.assign rfl) (by decide) ?_   -- t4 := assign c(STR)
    refine WL.val (Y.assign rfl) (by decide) ?_   -- t5 := assign c(0:i64)
    refine WL.val (Y.assign rfl) (by decide) ?_   -- t6 := assign c(8:i64)
    refine WL.nil ?_
    refine hK14 _ _ ?_; try clear hK14 K14
    refine CW.ret ⟨_, rfl, ?_⟩
    have h2 := gt_of_error (bs := s.toList) (at_ := at_) (e := 8) (by rw [gtext_num hg, if_neg (by omega), if_pos (by omega)])
    exact ⟨by rw [h2.1, h2.2.1, h2.2.2]; rfl, hx1⟩
  -- else
  refine CW.skip ?_
  refine hK11 _ _ ?_; try clear hK11 K11
  refine CW.seq fun K15 hK15 => ?_
  refine CW.region ?_   -- region 8
  refine WL.val (Y.move rfl) (by decide) ?_   -- t28 := move t0
  refine WL.val (Y.move rfl) (by decide) ?_   -- t29 := move t8
  refine WL.val (Y.move rfl) (by decide) ?_   -- t30 := move t8
  refine WL.val (Y.move rfl) (by decide) ?_   -- t31 := move t7
  refine WL.val (Y.add rfl rfl ⟨by omega, by omega⟩) (by decide) ?_   -- t32 := binOp add 3 t30 t31 3
  refine WL.val (Y.slice_str (i := nx) (j := nx + n) Try.underlying9 rfl rfl rfl rfl rfl (by omega) (by omega)) (by decide) ?_   -- t33 := slice 9 t28 t29 t32 none
  refine WL.val (Y.move rfl) (by decide) ?_   -- t34 := move t8
  refine WL.val (Y.move rfl) (by decide) ?_   -- t35 := move t7
  refine WL.val (Y.add rfl rfl ⟨by omega, by omega⟩) (by decide) ?_   -- t36 := binOp add 3 t34 t35 3
  refine WL.val (Y.assign rfl) (by decide) ?_   -- t4 := assign t33
  refine WL.val (Y.assign rfl) (by decide) ?_   -- t5 := assign t36
  refine WL.val (Y.assign rfl) (by decide) ?_   -- t6 := assign c(0:i64)
  refine WL.nil ?_
  refine hK15 _ _ ?_; try clear hK15 K15
  refine CW.ret ⟨_, rfl, ?_⟩
  have h2 := gt_of_ok (bs := s.toList) (at_ := at_) (t := (s.toList.drop nx).take n) (nx := nx + n) (by rw [gtext_num hg, if_neg (by omega), if_neg (by omega)])
  exact ⟨by rw [h2.1, h2.2.1, h2.2.2, extract_bs (by omega), Nat.add_sub_cancel_left]; rfl, hx1⟩
end Go.Proofs.Ytfbagecopapfhaa
