/- The reference's Decode, walked. No condition. -/
import Derived.Test.YtfbagecopapfhaaRh
set_option linter.unusedSimpArgs false
set_option linter.unusedVariables false
namespace Go.Pl
open Go.Fw
theorem gcom_head : gcomR = gbind gheadR fun c => gbind gnum fun m bs at_ => if 2000 < m then .error 4 else gbind (fun bs at_ => gmany gop bs m at_) (fun ops _ at_ => .ok (({ c with ops := ops } : ComD), at_)) bs at_ := by
  funext bs at_
  unfold gcomR gheadR gbind
  cases gnum bs at_ with
  | error e => rfl
  | ok p =>
    obtain ⟨n, a⟩ := p
    simp only []
    by_cases h8 : 8 < n
    · simp only [h8, if_true]
    simp only [h8, if_false]
    cases gmany gdig bs n a with
    | error e => rfl
    | ok p =>
      obtain ⟨ps, a⟩ := p
      simp only []
      cases gtext bs a with
      | error e => rfl
      | ok p =>
        obtain ⟨au, a⟩ := p
        simp only []
        cases gtext bs a with
        | error e => rfl
        | ok p => rfl
section
variable {b : List UInt8} {m a a5 a6 : Nat} {e : Int} {c : ComD} {ops : List OpD}
theorem dh1 (h : gheadR b 0 = .error e) : decI b = .error e := by rw [decI, gcom_eq, gcom_head, gbind_err h]
theorem dh2 (h : gheadR b 0 = .ok (c, a)) (hm : gnum b a = .error e) : decI b = .error e := by rw [decI, gcom_eq, gcom_head, gbind_ok h, gbind_err hm]
theorem dh3 (h : gheadR b 0 = .ok (c, a)) (hm : gnum b a = .ok (m, a5)) (h2 : 2000 < m) : decI b = .error 4 := by rw [decI, gcom_eq, gcom_head, gbind_ok h, gbind_ok hm, if_pos h2]
theorem dh4 (h : gheadR b 0 = .ok (c, a)) (hm : gnum b a = .ok (m, a5)) (h2 : ¬ 2000 < m) (ho : gmany gop b m a5 = .error e) : decI b = .error e := by
  rw [decI, gcom_eq, gcom_head, gbind_ok h, gbind_ok hm, if_neg h2, gbind_err (f := fun bs at_ => gmany gop bs m at_) ho]
theorem dh5 (h : gheadR b 0 = .ok (c, a)) (hm : gnum b a = .ok (m, a5)) (h2 : ¬ 2000 < m) (ho : gmany gop b m a5 = .ok (ops, a6)) : gcomR b 0 = .ok (({ c with ops := ops } : ComD), a6) := by
  rw [gcom_head, gbind_ok h, gbind_ok hm, if_neg h2, gbind_ok (f := fun bs at_ => gmany gop bs m at_) ho]
theorem dh6 (h : gcomR b 0 = .ok (c, a6)) (hne : a6 ≠ b.length) : decI b = .error 7 := by rw [decI, gcom_eq, h]; simp [hne]
theorem dh7 (h : gcomR b 0 = .ok (c, b.length)) (hm : mayI c ≠ 0) : decI b = .error (mayI c) := by rw [decI, gcom_eq, h]; simp [hm]
theorem dh8 (h : gcomR b 0 = .ok (c, b.length)) (hm : mayI c = 0) : decI b = .ok c := by rw [decI, gcom_eq, h]; simp [hm]
end
theorem goR {b : List UInt8} {at_ : Nat} (h : goE b at_ = 0) : ∃ a, gop b at_ = .ok (goV b at_, a) ∧ goX b at_ = (a : Int) := by
  cases hg : gop b at_ with
  | error e => rw [(go_err hg).1] at h; exact absurd h (nz_op _ _ _ hg)
  | ok p => exact ⟨p.2, by rw [(go_ok hg).2.1], (go_ok hg).2.2⟩
theorem goE_ne {b : List UInt8} {at_ : Nat} (h : goE b at_ ≠ 0) : gop b at_ = .error (goE b at_) := by
  cases hg : gop b at_ with
  | error e => rw [(go_err hg).1]
  | ok p => exact absurd (go_ok hg).1 h
end Go.Pl
namespace Go.Proofs.Ytfbagecopapfhaa
open Go.RowKit Go.Fw Go.Pl
theorem dz {b : List UInt8} {w w' : World} {v : Value} {e : Int} (hl : ¬ 131072 < b.length) (h : decI b = .error e) (hx : Ext w w') (hv : v = .tuple #[.agg comZ.toArray, .int .i64 e]) : DecR b w v w' :=
  DecR.zero (by rw [decC, if_neg hl, h]) (by rw [decE, if_neg hl, h]) hx hv

set_option maxRecDepth 20000 in
theorem rDecode_any (s : ByteArray) (w : World) (hsm : s.size ≤ 9223372036854770000) : Calls Try.prog 21 #[.string s] w (Ret (DecR s.toList w)) := by
  have hsl := toList_length s
  obtain ⟨ic, hic, hzc⟩ := info_com
  refine calls_of_CWct 78 2 4 [3] [(0, .string s)] Try.func21 rfl rfl rfl Try.underlying31 rfl (by kernel_rfl) (by simp) args1 ?_
  have hE : Ext w w := Chg.refl
  refine CW.seq fun K1 hK1 => ?_
  refine CW.region ?_   -- region 0
  refine WL.alloc (hic) (hzc) rfl (by decide) fun g2 w1 hx1 hg2 hB2 => ?_   -- t2 := alloc 31
  have hlt2 := hB2.lt; have hz1 := hx1.size
  have hM2 := hB2.mem; have hz1 := hx1.size; have hE := hE.thenExt hx1
  refine WL.val (Y.assign rfl) (by decide) ?_   -- t3 := assign c(0:i64)
  refine WL.nil ?_
  refine hK1 _ _ ?_; try clear hK1 K1
  refine CW.seq fun K2 hK2 => ?_
  refine CW.seq fun K3 hK3 => ?_
  refine CW.region ?_   -- region 1
  refine WL.val (Y.move rfl) (by decide) ?_   -- t15 := move t0
  refine WL.val (Y.len_string Try.underlying9 rfl) (by decide) ?_   -- t16 := call len(t15) : 9
  refine WL.val (Y.gtr rfl rfl) (by decide) ?_   -- t17 := binOp gtr 3 t16 c(131072:i64) 3
  refine WL.nil ?_
  refine hK3 _ _ ?_; try clear hK3 K3
  first | refine CW.condD rfl (fun ht4 => ?_) (fun ht4 => ?_) | refine CW.condND rfl (fun ht4 => ?_) (fun ht4 => ?_) | refine CW.condN rfl (fun ht4 => ?_) (fun ht4 => ?_) | refine CW.cond rfl (fun ht4 => ?_) (fun ht4 => ?_)
  · -- then
    refine CW.seq fun K5 hK5 => ?_
    refine CW.region ?_   -- region 2
    refine WL.val (Y.build0 (build_apiCommit _)) (by decide) ?_   -- t18 := build 31 []
    refine WL.store (g := g2) (pre := []) (old := comZ) (post := []) (new := comZ) rfl rfl rfl rfl (sz_apiCommit _ _ _ _) (by simpa using hB2) (by first | rfl | (simp [digC_length, opC_length]; done) | (simp only [digC_length, opC_length]; omega)) (one_comZ) (fun w2 hc2 hB2_ => ?_)   -- _ := store 31 t2 t18
    have hz2 := hc2.size; have hE := hE.step hc2 (fun k h => by omega)
    have hB2 : Blk w2 g2 TC comZ := by simpa using hB2_
    refine WL.val (Y.assign rfl) (by decide) ?_   -- t3 := assign c(3:i64)
    refine WL.nil ?_
    refine hK5 _ _ ?_; try clear hK5 K5
    refine CW.ret ?_
    exact ⟨_, _, _, rfl, hB2.mem, rfl, rfl, DecR.zero (by rw [decC, if_pos (by omega)]) (by rw [decE, if_pos (by omega)]) hE rfl⟩
  -- else
  refine CW.skip ?_
  refine hK2 _ _ ?_; try clear hK2 K2
  refine CW.seq fun K6 hK6 => ?_
  refine CW.region ?_   -- region 3
  refine WL.val (Y.move rfl) (by decide) ?_   -- t20 := move t0
  refine WL.call Try.func39 rfl rfl rfl (rHead_any s _ (by omega)) (by simp) ?_; rintro v21 w3 hR3   -- t21 := call F39(t20) : 9
  obtain ⟨⟨Ah, mh, ch, rfl, hOh⟩, hx3⟩ := hR3
  have hz3 := hx3.size
  have hE := hE.thenExt hx3
  have hB2 := hB2.ext hx3
  refine WL.val (Y.move rfl) (by decide) ?_   -- t19 := move t21
  refine WL.val (Y.extract rfl rfl) (by decide) ?_   -- t22 := extract t19 0
  refine WL.val (Y.extract rfl rfl) (by decide) ?_   -- t23 := extract t19 1
  refine WL.val (Y.extract rfl rfl) (by decide) ?_   -- t24 := extract t19 2
  refine as_apiCommit rfl (by simp) (by decide) fun g4 w4 hx4 hg4 hB4 => ?_   -- alloc 31; store 31 t4 t22
  have hlt4 := hB4.lt; have hz4 := hx4.size
  have hM4 := hB4.mem; have hz4 := hx4.size; have hE := hE.thenExt hx4; have hB2 := hB2.ext hx4
  refine WL.val (Y.assign rfl) (by decide) ?_   -- t5 := assign t23
  refine WL.val (Y.assign rfl) (by decide) ?_   -- t6 := assign t24
  refine WL.nil ?_
  refine hK6 _ _ ?_; try clear hK6 K6
  refine CW.seq fun K7 hK7 => ?_
  refine CW.seq fun K8 hK8 => ?_
  refine CW.region ?_   -- region 4
  refine WL.val (Y.move rfl) (by decide) ?_   -- t25 := move t6
  refine WL.val (Y.neq rfl rfl) (by decide) ?_   -- t26 := binOp neq 3 t25 c(0:i64) 3
  refine WL.nil ?_
  refine hK8 _ _ ?_; try clear hK8 K8
  first | refine CW.condD rfl (fun ht9 => ?_) (fun ht9 => ?_) | refine CW.condND rfl (fun ht9 => ?_) (fun ht9 => ?_) | refine CW.condN rfl (fun ht9 => ?_) (fun ht9 => ?_) | refine CW.cond rfl (fun ht9 => ?_) (fun ht9 => ?_)
  · -- then
    refine CW.seq fun K10 hK10 => ?_
    refine CW.region ?_   -- region 5
    refine WL.val (Y.build0 (build_apiCommit _)) (by decide) ?_   -- t27 := build 31 []
    refine WL.val (Y.move rfl) (by decide) ?_   -- t28 := move t6
    refine WL.store (g := g2) (pre := []) (old := comZ) (post := []) (new := comZ) rfl rfl rfl rfl (sz_apiCommit _ _ _ _) (by simpa using hB2) (by first | rfl | (simp [digC_length, opC_length]; done) | (simp only [digC_length, opC_length]; omega)) (one_comZ) (fun w5 hc5 hB5_ => ?_)   -- _ := store 31 t2 t27
    have hz5 := hc5.size; have hE := hE.step hc5 (fun k h => by omega); have hB4 := hB4.chg hc5 (fun h => by omega)
    have hB2 : Blk w5 g2 TC comZ := by simpa using hB5_
    refine WL.val (Y.assign rfl) (by decide) ?_   -- t3 := assign t28
    refine WL.nil ?_
    refine hK10 _ _ ?_; try clear hK10 K10
    refine CW.ret ?_
    exact ⟨_, _, _, rfl, hB2.mem, rfl, rfl, dz (by omega) (dh1 (heE_ne (by assumption))) hE rfl⟩
  -- else
  refine CW.skip ?_
  refine hK7 _ _ ?_; try clear hK7 K7
  refine CW.seq fun K11 hK11 => ?_
  obtain ⟨c0, a0, hgh, hC0, hX0⟩ := heE_zero (b := s.toList) (by omega)
  obtain ⟨hOh, hfh⟩ := hOh (by omega)
  obtain ⟨_, ha0, hc8, hau, hno, hops⟩ := snd_head _ _ _ _ (Nat.zero_le _) hgh
  rw [hC0] at hB4 hOh
  rw [hX0]
  have hlh := hOh.lt
  have hOh := hOh.ext hx4
  refine CW.region ?_   -- region 6
  refine WL.val (Y.move rfl) (by decide) ?_   -- t30 := move t0
  refine WL.val (Y.move rfl) (by decide) ?_   -- t31 := move t5
  refine WL.call Try.func40 rfl rfl rfl (rGetNum_t s a0 _ (by omega) (by omega)) (by simp) ?_; rintro v w6 ⟨rfl, hx6⟩; have hz6 := hx6.size; have hE := hE.thenExt hx6; have hB2 := hB2.ext hx6; have hB4 := hB4.ext hx6   -- t32 := call F40(t30, t31) : 9,3
  refine WL.val (Y.move rfl) (by decide) ?_   -- t29 := move t32
  refine WL.val (Y.extract rfl rfl) (by decide) ?_   -- t33 := extract t29 0
  refine WL.val (Y.extract rfl rfl) (by decide) ?_   -- t34 := extract t29 1
  refine WL.val (Y.extract rfl rfl) (by decide) ?_   -- t35 := extract t29 2
  refine WL.val (Y.assign rfl) (by decide) ?_   -- t7 := assign t33
  refine WL.val (Y.assign rfl) (by decide) ?_   -- t8 := assign t34
  refine WL.val (Y.assign rfl) (by decide) ?_   -- t9 := assign t35
  refine WL.nil ?_
  refine hK11 _ _ ?_; try clear hK11 K11
  refine CW.seq fun K12 hK12 => ?_
  refine CW.seq fun K13 hK13 => ?_
  refine CW.region ?_   -- region 7
  refine WL.val (Y.move rfl) (by decide) ?_   -- t36 := move t9
  refine WL.val (Y.neq rfl rfl) (by decide) ?_   -- t37 := binOp neq 3 t36 c(0:i64) 3
  refine WL.nil ?_
  refine hK13 _ _ ?_; try clear hK13 K13
  first | refine CW.condD rfl (fun ht14 => ?_) (fun ht14 => ?_) | refine CW.condND rfl (fun ht14 => ?_) (fun ht14 => ?_) | refine CW.condN rfl (fun ht14 => ?_) (fun ht14 => ?_) | refine CW.cond rfl (fun ht14 => ?_) (fun ht14 => ?_)
  · -- then
    refine CW.seq fun K15 hK15 => ?_
    refine CW.region ?_   -- region 8
    refine WL.val (Y.build0 (build_apiCommit _)) (by decide) ?_   -- t38 := build 31 []
    refine WL.val (Y.move rfl) (by decide) ?_   -- t39 := move t9
    refine WL.store (g := g2) (pre := []) (old := comZ) (post := []) (new := comZ) rfl rfl rfl rfl (sz_apiCommit _ _ _ _) (by simpa using hB2) (by first | rfl | (simp [digC_length, opC_length]; done) | (simp only [digC_length, opC_length]; omega)) (one_comZ) (fun w7 hc7 hB7_ => ?_)   -- _ := store 31 t2 t38
    have hz7 := hc7.size; have hE := hE.step hc7 (fun k h => by omega); have hB4 := hB4.chg hc7 (fun h => by omega)
    have hB2 : Blk w7 g2 TC comZ := by simpa using hB7_
    refine WL.val (Y.assign rfl) (by decide) ?_   -- t3 := assign t39
    refine WL.nil ?_
    refine hK15 _ _ ?_; try clear hK15 K15
    refine CW.ret ?_
    exact ⟨_, _, _, rfl, hB2.mem, rfl, rfl, dz (by omega) (dh2 hgh (gE_ne (by assumption)).1) hE rfl⟩
  -- else
  refine CW.skip ?_
  refine hK12 _ _ ?_; try clear hK12 K12
  refine CW.seq fun K16 hK16 => ?_
  refine CW.seq fun K17 hK17 => ?_
  obtain ⟨n, a1, hg, hN, hX⟩ := gE_zero (bs := s.toList) (at_ := a0) (by omega)
  rw [hN, hX]
  have hlen := gnum_len hg (by omega)
  have hOh := hOh.ext hx6
  refine CW.region ?_   -- region 9
  refine WL.val (Y.move rfl) (by decide) ?_   -- t40 := move t7
  refine WL.val (Y.gtr rfl rfl) (by decide) ?_   -- t41 := binOp gtr 3 t40 c(2000:i64) 3
  refine WL.nil ?_
  refine hK17 _ _ ?_; try clear hK17 K17
  first | refine CW.condD rfl (fun ht18 => ?_) (fun ht18 => ?_) | refine CW.condND rfl (fun ht18 => ?_) (fun ht18 => ?_) | refine CW.condN rfl (fun ht18 => ?_) (fun ht18 => ?_) | refine CW.cond rfl (fun ht18 => ?_) (fun ht18 => ?_)
  · -- then
    refine CW.seq fun K19 hK19 => ?_
    refine CW.region ?_   -- region 10
    refine WL.val (Y.build0 (build_apiCommit _)) (by decide) ?_   -- t42 := build 31 []
    refine WL.store (g := g2) (pre := []) (old := comZ) (post := []) (new := comZ) rfl rfl rfl rfl (sz_apiCommit _ _ _ _) (by simpa using hB2) (by first | rfl | (simp [digC_length, opC_length]; done) | (simp only [digC_length, opC_length]; omega)) (one_comZ) (fun w8 hc8 hB8_ => ?_)   -- _ := store 31 t2 t42
    have hz8 := hc8.size; have hE := hE.step hc8 (fun k h => by omega); have hB4 := hB4.chg hc8 (fun h => by omega)
    have hB2 : Blk w8 g2 TC comZ := by simpa using hB8_
    refine WL.val (Y.assign rfl) (by decide) ?_   -- t3 := assign c(4:i64)
    refine WL.nil ?_
    refine hK19 _ _ ?_; try clear hK19 K19
    refine CW.ret ?_
    exact ⟨_, _, _, rfl, hB2.mem, rfl, rfl, dz (by omega) (dh3 hgh hg (by omega)) hE rfl⟩
  -- else
  refine CW.skip ?_
  refine hK16 _ _ ?_; try clear hK16 K16
  refine CW.seq fun K20 hK20 => ?_
  refine CW.seq fun K21 hK21 => ?_
  refine CW.region ?_   -- region 11
  refine WL.val (Y.assign rfl) (by decide) ?_   -- t10 := assign c(0:i64)
  refine WL.nil ?_
  refine hK21 _ _ ?_; try clear hK21 K21
  refine CW.block ?_   -- block 0
  refine CW.loop (X := Nat × List OpD × Value × Nat) (fun x => [(0, .string s), (2, .pointer (some ⟨g2, 0, none⟩)), (4, .pointer (some ⟨g4, 0, none⟩)), (7, .int .i64 (n : Int)), (8, .int .i64 (x.2.2.2 : Int)), (10, .int .i64 (x.1 : Int))]) (fun x w0 => x.1 ≤ n ∧ x.2.1.length = x.1 ∧ x.2.2.2 ≤ s.size ∧ gmany gop s.toList n a1 = gcat x.2.1 (gmany gop s.toList (n - x.1) x.2.2.2) ∧ Ext w w0 ∧ Blk w0 g2 TC comZ ∧ Blk w0 g4 TC (comC (.slice Ah mh ch) c0.author c0.note x.2.2.1) ∧ Own w0 TD 32 (.slice Ah mh ch) (flatD c0.parents) ∧ Own w0 TO 37 x.2.2.1 (flatO x.2.1) ∧ (∀ k, x.2.2.1.ownBlock = some k → w4.heap.size ≤ k) ∧ w4.heap.size ≤ w0.heap.size) (fun x => n - x.1) (0, [], .slice none 0 0, a1) (by repeat (first | exact Fr.le.nil | refine Fr.le.cons rfl ?_)) ⟨Nat.zero_le _, rfl, (by show a1 ≤ _; omega), (gcat_nil _).symm, hE, hB2, hB4, hOh, Own.nil, fun k h => by simp [Value.ownBlock] at h, (by omega)⟩ ?_
  intro x w9 hl9
  obtain ⟨i, os, ov, p⟩ := x
  dsimp only at hl9 ⊢
  obtain ⟨hi, hpl, hp, hgm, hE, hB2, hB4, hOh, hO, hfp, hz9⟩ := hl9
  obtain ⟨Ap, mp, cp, rfl⟩ := hO.lens
  have hlo := hO.lt
  refine CW.seq fun K22 hK22 => ?_
  refine CW.seq fun K23 hK23 => ?_
  refine CW.region ?_   -- region 12
  refine WL.val (Y.move rfl) (by decide) ?_   -- t43 := move t10
  refine WL.val (Y.move rfl) (by decide) ?_   -- t44 := move t7
  refine WL.val (Y.lss rfl rfl) (by decide) ?_   -- t45 := binOp lss 3 t43 t44 3
  refine WL.nil ?_
  refine hK23 _ _ ?_; try clear hK23 K23
  first | refine CW.condD rfl (fun ht24 => ?_) (fun ht24 => ?_) | refine CW.condND rfl (fun ht24 => ?_) (fun ht24 => ?_) | refine CW.condN rfl (fun ht24 => ?_) (fun ht24 => ?_) | refine CW.cond rfl (fun ht24 => ?_) (fun ht24 => ?_)
  · -- then
    refine CW.skip ?_
    refine hK22 _ _ ?_; try clear hK22 K22
    refine CW.seq fun K25 hK25 => ?_
    refine CW.block ?_   -- block 1
    refine CW.seq fun K26 hK26 => ?_
    refine CW.region ?_   -- region 14
    refine WL.val (Y.move rfl) (by decide) ?_   -- t49 := move t0
    refine WL.val (Y.move rfl) (by decide) ?_   -- t50 := move t8
    refine WL.call Try.func41 rfl rfl rfl (rOp_any s p _ (by omega) hp) (by simp) ?_; rintro v w10 ⟨rfl, hx10⟩; have hz10 := hx10.size; have hE := hE.thenExt hx10; have hB2 := hB2.ext hx10; have hB4 := hB4.ext hx10   -- t51 := call F41(t49, t50) : 9,3
    refine WL.val (Y.move rfl) (by decide) ?_   -- t48 := move t51
    refine WL.val (Y.extract rfl rfl) (by decide) ?_   -- t52 := extract t48 0
    refine WL.val (Y.extract rfl rfl) (by decide) ?_   -- t53 := extract t48 1
    refine WL.val (Y.extract rfl rfl) (by decide) ?_   -- t54 := extract t48 2
    refine as_apiOp rfl (by simp) (by decide) fun g11 w11 hx11 hg11 hB11 => ?_   -- alloc 57; store 57 t11 t52
    have hlt11 := hB11.lt; have hz11 := hx11.size
    have hM11 := hB11.mem; have hz11 := hx11.size; have hE := hE.thenExt hx11; have hB2 := hB2.ext hx11; have hB4 := hB4.ext hx11
    refine WL.val (Y.assign rfl) (by decide) ?_   -- t12 := assign t53
    refine WL.val (Y.assign rfl) (by decide) ?_   -- t13 := assign t54
    refine WL.nil ?_
    refine hK26 _ _ ?_; try clear hK26 K26
    refine CW.seq fun K27 hK27 => ?_
    refine CW.seq fun K28 hK28 => ?_
    refine CW.region ?_   -- region 15
    refine WL.val (Y.move rfl) (by decide) ?_   -- t55 := move t13
    refine WL.val (Y.neq rfl rfl) (by decide) ?_   -- t56 := binOp neq 3 t55 c(0:i64) 3
    refine WL.nil ?_
    refine hK28 _ _ ?_; try clear hK28 K28
    first | refine CW.condD rfl (fun ht29 => ?_) (fun ht29 => ?_) | refine CW.condND rfl (fun ht29 => ?_) (fun ht29 => ?_) | refine CW.condN rfl (fun ht29 => ?_) (fun ht29 => ?_) | refine CW.cond rfl (fun ht29 => ?_) (fun ht29 => ?_)
    · -- then
      refine CW.seq fun K30 hK30 => ?_
      refine CW.region ?_   -- region 16
      refine WL.val (Y.build0 (build_apiCommit _)) (by decide) ?_   -- t57 := build 31 []
      refine WL.val (Y.move rfl) (by decide) ?_   -- t58 := move t13
      refine WL.store (g := g2) (pre := []) (old := comZ) (post := []) (new := comZ) rfl rfl rfl rfl (sz_apiCommit _ _ _ _) (by simpa using hB2) (by first | rfl | (simp [digC_length, opC_length]; done) | (simp only [digC_length, opC_length]; omega)) (one_comZ) (fun w12 hc12 hB12_ => ?_)   -- _ := store 31 t2 t57
      have hz12 := hc12.size; have hE := hE.step hc12 (fun k h => by omega); have hB4 := hB4.chg hc12 (fun h => by omega); have hB11 := hB11.chg hc12 (fun h => by omega)
      have hB2 : Blk w12 g2 TC comZ := by simpa using hB12_
      refine WL.val (Y.assign rfl) (by decide) ?_   -- t3 := assign t58
      refine WL.nil ?_
      refine hK30 _ _ ?_; try clear hK30 K30
      refine CW.ret ?_
      exact ⟨_, _, _, rfl, hB2.mem, rfl, rfl, dz (by omega) (dh4 hgh hg (by omega) (by rw [hgm, show n - i = (n - i - 1) + 1 by omega, gcat_err (goE_ne (by assumption))])) hE rfl⟩
    -- else
    refine CW.skip ?_
    refine hK27 _ _ ?_; try clear hK27 K27
    refine CW.seq fun K31 hK31 => ?_
    obtain ⟨q, hgo1, hgx⟩ := goR (b := s.toList) (at_ := p) (by omega)
    rw [hgx]
    have hlq := snd_op _ _ _ _ (by omega) hgo1
    refine CW.region ?_   -- region 17
    refine WL.val (Y.fieldAddr fo_apiCommit3 rfl) (by decide) ?_   -- t59 := fieldAddr 31 t4 3
    refine WL.val (Y.load1 Try.underlying24 rfl hB4.mem.com3 rfl) (by decide) ?_   -- t60 := load 24 t59
    refine WL.val (Y.load Try.underlying57 rfl hB11.mem (sz_apiOp _) rfl) (by decide) ?_   -- t61 := load 57 t11
    refine WL.st (St.buildSlice rfl (bs1_op _)) (by decide) fun v62 w13 hR13 => ?_   -- t62 := buildSlice 24 1 [(0,t61)]
    obtain ⟨g62, rfl, hg62, hB62, hx13⟩ := hR13
    have hz13 := hx13.size
    have hE := hE.thenExt hx13
    have hB2 := hB2.ext hx13
    have hB4 := hB4.ext hx13
    have hB11 := hB11.ext hx13
    have hOh := hOh.ext ((hx10.thenExt hx11).thenExt hx13)
    refine WL.st (St.append Try.underlying24 Try.underlying24 ai_op rfl rfl (hO.ext ((hx10.thenExt hx11).thenExt hx13)) (Src.one hB62 (opC_length _)) one_opC (by rw [flat_length opC_length]; omega)) (by decide) fun v63 w14 hR14 => ?_   -- t63 := call append(t60, t62) : 24,24
    obtain ⟨hO14, hc14, hf14⟩ := hR14
    have hz14 := hc14.size
    have hE := hE.step hc14 (fun k h => by have := hfp k h; omega)
    have hB2 := hB2.chg hc14 (fun h => by have := hfp _ h; have := hlo _ h; omega)
    have hB4 := hB4.chg hc14 (fun h => by have := hfp _ h; have := hlo _ h; omega)
    have hB11 := hB11.chg hc14 (fun h => by have := hfp _ h; have := hlo _ h; omega)
    have hOh := hOh.chg hc14 (fun k hk h => by have := hfh k hk; have := hlh k hk; have := hfp _ h; omega)
    have hf14 : ∀ k, v63.ownBlock = some k → w4.heap.size ≤ k := by
      rcases hf14 with h | h
      · intro k hk; rw [h] at hk; exact hfp k hk
      · intro k hk; have := h k hk; omega
    obtain ⟨A14, m14, c14, rfl⟩ := hO14.lens
    refine WL.val (Y.fieldAddr fo_apiCommit3 rfl) (by decide) ?_   -- t64 := fieldAddr 31 t4 3
    refine WL.store (g := g4) (pre := [(.slice Ah mh ch), .string c0.author, .string c0.note]) (old := [.slice Ap mp cp]) (post := []) (new := [.slice A14 m14 c14]) rfl rfl rfl rfl (by kernel_rfl) hB4 (by first | rfl | (simp [digC_length, opC_length]; done) | (simp only [digC_length, opC_length]; omega)) (one1 rfl) (fun w15 hc15 hB15_ => ?_)   -- _ := store 24 t64 t63
    have hz15 := hc15.size; have hE := hE.step hc15 (fun k h => by omega); have hB2 := hB2.chg hc15 (fun h => by omega); have hB11 := hB11.chg hc15 (fun h => by omega)
    have hB4 : Blk w15 g4 TC (comC (.slice Ah mh ch) c0.author c0.note (.slice A14 m14 c14)) := hB15_
    have hO14 := hO14.chg hc15 (fun k hk h => by have := hf14 k hk; omega)
    have hOh := hOh.chg hc15 (fun k hk h => by have := hlh k hk; omega)
    refine WL.nil ?_
    refine hK31 _ _ ?_; try clear hK31 K31
    refine CW.region ?_   -- region 18
    refine WL.val (Y.move rfl) (by decide) ?_   -- t65 := move t12
    refine WL.val (Y.assign rfl) (by decide) ?_   -- t8 := assign t65
    refine WL.nil ?_
    refine hK25 _ _ ?_; try clear hK25 K25
    refine CW.region ?_   -- region 13
    refine WL.val (Y.move rfl) (by decide) ?_   -- t46 := move t10
    refine WL.val (Y.add rfl rfl ⟨by omega, by omega⟩) (by decide) ?_   -- t47 := binOp add 3 t46 c(1:i64) 3
    refine WL.val (Y.assign rfl) (by decide) ?_   -- t10 := assign t47
    refine WL.nil ?_
    refine ⟨(i + 1, os ++ [goV s.toList p], .slice A14 m14 c14, q), by show n - (i + 1) < n - i; omega, (by repeat (first | exact Fr.le.nil | refine Fr.le.cons rfl ?_)), by show i + 1 ≤ n; omega, by simp [hpl], by show q ≤ _; omega, ?_, hE, hB2, hB4, hOh, by simpa [flatO] using hO14, hf14, by omega⟩
    show gmany gop s.toList n a1 = gcat (os ++ [goV s.toList p]) (gmany gop s.toList (n - (i + 1)) q)
    obtain ⟨k, hk⟩ : ∃ k, n - i = k + 1 := ⟨n - i - 1, by omega⟩
    rw [hgm, hk, gcat_ok hgo1, show n - (i + 1) = k by omega]
  -- else
  refine CW.exit ?_   -- exit 0
  refine hK20 _ _ ?_; try clear hK20 K20
  refine CW.seq fun K32 hK32 => ?_
  refine CW.seq fun K33 hK33 => ?_
  have hps : gmany gop s.toList n a1 = .ok (os, p) := by rw [hgm, show n - i = 0 by omega]; exact gcat_end
  have hgc := dh5 hgh hg (by omega) hps
  refine CW.region ?_   -- region 19
  refine WL.val (Y.move rfl) (by decide) ?_   -- t66 := move t8
  refine WL.val (Y.move rfl) (by decide) ?_   -- t67 := move t0
  refine WL.val (Y.len_string Try.underlying9 rfl) (by decide) ?_   -- t68 := call len(t67) : 9
  refine WL.val (Y.neq rfl rfl) (by decide) ?_   -- t69 := binOp neq 3 t66 t68 3
  refine WL.nil ?_
  refine hK33 _ _ ?_; try clear hK33 K33
  first | refine CW.condD rfl (fun ht34 => ?_) (fun ht34 => ?_) | refine CW.condND rfl (fun ht34 => ?_) (fun ht34 => ?_) | refine CW.condN rfl (fun ht34 => ?_) (fun ht34 => ?_) | refine CW.cond rfl (fun ht34 => ?_) (fun ht34 => ?_)
  · -- then
    refine CW.seq fun K35 hK35 => ?_
    refine CW.region ?_   -- region 20
    refine WL.val (Y.build0 (build_apiCommit _)) (by decide) ?_   -- t70 := build 31 []
    refine WL.store (g := g2) (pre := []) (old := comZ) (post := []) (new := comZ) rfl rfl rfl rfl (sz_apiCommit _ _ _ _) (by simpa using hB2) (by first | rfl | (simp [digC_length, opC_length]; done) | (simp only [digC_length, opC_length]; omega)) (one_comZ) (fun w16 hc16 hB16_ => ?_)   -- _ := store 31 t2 t70
    have hz16 := hc16.size; have hE := hE.step hc16 (fun k h => by omega); have hB4 := hB4.chg hc16 (fun h => by omega)
    have hB2 : Blk w16 g2 TC comZ := by simpa using hB16_
    refine WL.val (Y.assign rfl) (by decide) ?_   -- t3 := assign c(7:i64)
    refine WL.nil ?_
    refine hK35 _ _ ?_; try clear hK35 K35
    refine CW.ret ?_
    exact ⟨_, _, _, rfl, hB2.mem, rfl, rfl, dz (by omega) (dh6 hgc (by omega)) hE rfl⟩
  -- else
  refine CW.skip ?_
  refine hK32 _ _ ?_; try clear hK32 K32
  refine CW.seq fun K36 hK36 => ?_
  have hpe : p = s.toList.length := by omega
  rw [hpe] at hgc
  refine CW.region ?_   -- region 21
  refine WL.val (Y.load Try.underlying31 rfl hB4.mem (sz_apiCommit _ _ _ _) rfl) (by decide) ?_   -- t71 := load 31 t4
  refine WL.call Try.func18 rfl rfl rfl (rMay_any _ ({ c0 with ops := os } : ComD) _ ⟨_, _, rfl, hOh.sl digC_length (by decide), hO.sl opC_length (by decide), by unfold maxLen; show c0.author.size ≤ _; omega, by unfold maxLen; show c0.note.size ≤ _; omega⟩) (by simp) ?_; rintro v w17 ⟨rfl, hx17⟩; have hz17 := hx17.size; have hE := hE.thenExt hx17; have hB2 := hB2.ext hx17; have hB4 := hB4.ext hx17   -- t72 := call F18(t71) : 31
  refine WL.val (Y.assign rfl) (by decide) ?_   -- t14 := assign t72
  refine WL.nil ?_
  refine hK36 _ _ ?_; try clear hK36 K36
  refine CW.seq fun K37 hK37 => ?_
  refine CW.seq fun K38 hK38 => ?_
  refine CW.region ?_   -- region 22
  refine WL.val (Y.move rfl) (by decide) ?_   -- t73 := move t14
  refine WL.val (Y.neq rfl rfl) (by decide) ?_   -- t74 := binOp neq 3 t73 c(0:i64) 3
  refine WL.nil ?_
  refine hK38 _ _ ?_; try clear hK38 K38
  first | refine CW.condD rfl (fun ht39 => ?_) (fun ht39 => ?_) | refine CW.condND rfl (fun ht39 => ?_) (fun ht39 => ?_) | refine CW.condN rfl (fun ht39 => ?_) (fun ht39 => ?_) | refine CW.cond rfl (fun ht39 => ?_) (fun ht39 => ?_)
  · -- then
    refine CW.seq fun K40 hK40 => ?_
    refine CW.region ?_   -- region 23
    refine WL.val (Y.build0 (build_apiCommit _)) (by decide) ?_   -- t75 := build 31 []
    refine WL.val (Y.move rfl) (by decide) ?_   -- t76 := move t14
    refine WL.store (g := g2) (pre := []) (old := comZ) (post := []) (new := comZ) rfl rfl rfl rfl (sz_apiCommit _ _ _ _) (by simpa using hB2) (by first | rfl | (simp [digC_length, opC_length]; done) | (simp only [digC_length, opC_length]; omega)) (one_comZ) (fun w18 hc18 hB18_ => ?_)   -- _ := store 31 t2 t75
    have hz18 := hc18.size; have hE := hE.step hc18 (fun k h => by omega); have hB4 := hB4.chg hc18 (fun h => by omega)
    have hB2 : Blk w18 g2 TC comZ := by simpa using hB18_
    refine WL.val (Y.assign rfl) (by decide) ?_   -- t3 := assign t76
    refine WL.nil ?_
    refine hK40 _ _ ?_; try clear hK40 K40
    refine CW.ret ?_
    exact ⟨_, _, _, rfl, hB2.mem, rfl, rfl, dz (by omega) (dh7 hgc (by assumption)) hE rfl⟩
  -- else
  refine CW.skip ?_
  refine hK37 _ _ ?_; try clear hK37 K37
  refine CW.seq fun K41 hK41 => ?_
  have hm0 : mayI ({ c0 with ops := os } : ComD) = 0 := by omega
  refine CW.region ?_   -- region 24
  refine WL.val (Y.load Try.underlying31 rfl hB4.mem (sz_apiCommit _ _ _ _) rfl) (by decide) ?_   -- t77 := load 31 t4
  refine WL.store (g := g2) (pre := []) (old := comZ) (post := []) (new := comC (.slice Ah mh ch) c0.author c0.note (.slice Ap mp cp)) rfl rfl rfl rfl (sz_apiCommit _ _ _ _) (by simpa using hB2) (by first | rfl | (simp [digC_length, opC_length]; done) | (simp only [digC_length, opC_length]; omega)) (one_com) (fun w19 hc19 hB19_ => ?_)   -- _ := store 31 t2 t77
  have hz19 := hc19.size; have hE := hE.step hc19 (fun k h => by omega); have hB4 := hB4.chg hc19 (fun h => by omega)
  have hB2 : Blk w19 g2 TC (comC (.slice Ah mh ch) c0.author c0.note (.slice Ap mp cp)) := by simpa using hB19_
  have hOh := (hOh.ext hx17).chg hc19 (fun k hk h => by have := hfh k hk; omega)
  have hO := (hO.ext hx17).chg hc19 (fun k hk h => by have := hfp k hk; omega)
  refine WL.val (Y.assign rfl) (by decide) ?_   -- t3 := assign c(0:i64)
  refine WL.nil ?_
  refine hK41 _ _ ?_; try clear hK41 K41
  refine CW.ret ?_
  have hdi := dh8 hgc hm0
  have hdc : decC s.toList = ({ c0 with ops := os } : ComD) := by rw [decC, if_neg (by omega), hdi]
  have hde : decE s.toList = 0 := by rw [decE, if_neg (by omega), hdi]
  exact ⟨_, _, _, rfl, hB2.mem, rfl, rfl, _, _, by rw [hdc, hde], hE, by rw [hdc]; exact hOh.sl digC_length (by decide), by rw [hdc]; exact hO.sl opC_length (by decide), fun k hk => by have := hfh k hk; omega, fun k hk => by have := hfp k hk; omega⟩
end Go.Proofs.Ytfbagecopapfhaa
