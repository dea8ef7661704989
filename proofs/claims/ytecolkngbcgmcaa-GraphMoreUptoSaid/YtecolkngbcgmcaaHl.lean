/- GraphMore: the law's function, walked. No condition. -/
import Derived.Test.YtecolkngbcgmcaaHk
set_option linter.unusedSimpArgs false
set_option linter.unusedVariables false
namespace Go.Proofs.Ytecolkngbcgmcaa
open Go.RowKit Go.Fw Go.Pl Go.Sort
theorem one_flatN (l : List NdV) : ∀ u ∈ flatN l, u.oneCell' = true := by
  intro u hu
  obtain ⟨c, hc, hu⟩ := List.mem_flatten.1 hu
  obtain ⟨d, _, rfl⟩ := List.mem_map.1 hc
  exact one_ndC u hu

set_option maxHeartbeats 2000000 in
theorem graphMore_any (u v0 v1 : Value) (l : List NdV) (x : NdV) (a b : List Dig) (w : World) (hl : Nds w u l) (hx0 : Sl w digC 32 x.pv x.n.ps) (ha : Sl w digC 32 v0 a) (hb : Sl w digC 32 v1 b) (hnl : l.length ≤ 1048576) (hna : a.length ≤ 1048576) (hnb : b.length ≤ 1048576) : Calls Try.prog 12 #[u, ndV x, .agg #[v0, v1]] w (Ret (True_ w)) := by
  obtain ⟨A, c, rfl, hmc, hcm⟩ := hl.sl.lens
  unfold maxLen at hcm
  refine calls_of_CW 118 [6] [(0, .slice A l.length c), (1, ndV x), (2, .agg #[v0, v1])] Try.func12 rfl rfl rfl (by simp) args3 ?_
  have hE : Ext w w := Chg.refl
  refine CW.seq fun K1 hK1 => ?_
  refine CW.region ?_   -- region 0
  refine WL.box rfl rfl (by decide) fun g4 w1 hx1 hg4 hB4 => ?_   -- t4 := box 48 t1
  have hlt4 := hB4.lt; have hz1 := hx1.size
  have hM4 := hB4.mem; have hz1 := hx1.size; have hE := hE.thenExt hx1; have hl := hl.ext hx1; have ha := ha.ext hx1; have hb := hb.ext hx1; have hx0 := hx0.ext hx1
  refine WL.box rfl rfl (by decide) fun g5 w2 hx2 hg5 hB5 => ?_   -- t5 := box 53 t2
  have hlt5 := hB5.lt; have hz2 := hx2.size
  have hM5 := hB5.mem; have hz2 := hx2.size; have hE := hE.thenExt hx2; have hl := hl.ext hx2; have ha := ha.ext hx2; have hb := hb.ext hx2; have hx0 := hx0.ext hx2; have hB4 := hB4.ext hx2
  refine WL.val (Y.assign rfl) (by decide) ?_   -- t6 := assign c(false)
  refine WL.nil ?_
  refine hK1 _ _ ?_; try clear hK1 K1
  refine CW.seq_to (X := Value) (fun u => [(0, .slice A l.length c), (5, .pointer (some ⟨g5, 0, none⟩)), (7, u)]) (fun u w0 => Nds w0 u (l ++ [x]) ∧ Ext w2 w0) ?_ ?_
  · skip
    refine CW.held (fun wq => Ext w2 wq) (by kernel_rfl) 7 rfl fun w3 hS => ?_
    refine RH.take 1 (fun _ _ _ _ h => h) (by kernel_rfl) hS rfl (by kernel_rfl) (by kernel_rfl) (fun wq hq => Y.move rfl) (by decide) ?_   -- t25 := move t0
    refine RH.take 3 (fun _ _ _ _ h => h) (by kernel_rfl) hS rfl (by kernel_rfl) (by kernel_rfl) (fun wq hq => Y.load Try.underlying48 rfl (hB4.ext hq).mem (sz_apiNode _) rfl) (by decide) ?_   -- t27 := load 48 t4
    refine RH.two 0 4 (by kernel_rfl) ?_ ?_
    · skip
      refine RS.st rfl (St.buildSlice0 Try.underlying22 sz0_apiNode) (by decide) fun v24 w4 hR4 => ?_   -- buildSlice 22 0 []
      have hzS4 := hS.size
      obtain ⟨g24, rfl, hg24, hO, hx4⟩ := hR4
      have hz4 := hx4.size
      have hS := hS.thenExt hx4
      have hlt24 := hO.lt g24 rfl
      try have hB28 := hB28.ext hx4
      refine ⟨hS, ?_⟩
      refine RH.two 2 4 (by kernel_rfl) ?_ ?_
      · skip
        refine RS.st rfl (St.append Try.underlying22 Try.underlying22 ai_nd rfl rfl hO ((hl.ext hS).sl.src ndC_length) (one_flatN l) (by simp only [List.length_nil]; omega)) (by decide) fun v26 w5 hR5 => ?_   -- call append(t24, t25) : 22,22
        have hzS5 := hS.size
        obtain ⟨hO2, hc5, hf2⟩ := hR5
        have hz5 := hc5.size
        have hS := hS.step hc5 (fun k h => by simp [Value.ownBlock] at h; omega)
        have hf2 : ∀ k, v26.ownBlock = some k → w2.heap.size ≤ k := by
          rcases hf2 with h | h
          · intro k hk; rw [h] at hk; simp [Value.ownBlock] at hk; omega
          · intro k hk; have := h k hk; omega
        try have hB28 := hB28.chg hc5 (fun h => by simp [Value.ownBlock] at h; omega)
        refine ⟨hS, ?_⟩
        refine RH.one 4 (by kernel_rfl) ?_
        refine RS.st rfl (St.buildSlice rfl (bs1_nd _)) (by decide) fun v28 w6 hR6 => ?_   -- buildSlice 22 1 [(0,t27)]
        have hzS6 := hS.size
        obtain ⟨g28, rfl, hg28, hB28, hx6⟩ := hR6
        have hz6 := hx6.size
        have hS := hS.thenExt hx6
        have hlt28 := hB28.lt
        try have hO := hO.ext hx6
        try have hO2 := hO2.ext hx6
        refine ⟨hS, ?_⟩
        refine RH.one 5 (by kernel_rfl) ?_
        refine RS.st rfl (St.append Try.underlying22 Try.underlying22 ai_nd rfl rfl hO2 (Src.one hB28 (ndC_length _)) one_ndC (by rw [List.nil_append, show (List.map ndC l).flatten = flatN l from rfl, flat_length ndC_length]; omega)) (by decide) fun v29 w7 hR7 => ?_   -- call append(t26, t28) : 22,22
        obtain ⟨hO3, hc7, hf3⟩ := hR7
        have hz7 := hc7.size
        have hS := hS.step hc7 (fun k h => hf2 k h)
        refine ⟨hS, ?_⟩
        refine RH.take 6 (fun _ _ _ _ h => h) (by kernel_rfl) hS rfl (by kernel_rfl) (by kernel_rfl) (fun wq hq => Y.assign rfl) (by decide) ?_   -- t7 := assign t29
        refine RH.done (by kernel_rfl) ?_
        have hx8 := hS; have hz8 := hx8.size; have hE := hE.thenExt hx8; have hl := hl.ext hx8; have ha := ha.ext hx8; have hb := hb.ext hx8; have hx0 := hx0.ext hx8; have hB4 := hB4.ext hx8; have hB5 := hB5.ext hx8
        have hO4 : Own w7 TNo 33 v29 (flatN (l ++ [x])) := by simpa [flatN] using hO3
        exact ⟨v29, (by repeat (first | exact Fr.le.nil | refine Fr.le.cons rfl ?_)), ⟨hO4.sl ndC_length (by decide), fun y hy => by
          rcases List.mem_append.1 hy with hy | hy
          · exact hl.ps y hy
          · simp at hy; subst hy; exact hx0⟩, hx8⟩
      · skip
        refine RS.st rfl (St.buildSlice rfl (bs1_nd _)) (by decide) fun v28 w9 hR9 => ?_   -- buildSlice 22 1 [(0,t27)]
        have hzS9 := hS.size
        obtain ⟨g28, rfl, hg28, hB28, hx9⟩ := hR9
        have hz9 := hx9.size
        have hS := hS.thenExt hx9
        have hlt28 := hB28.lt
        try have hO := hO.ext hx9
        try have hO2 := hO2.ext hx9
        refine ⟨hS, ?_⟩
        refine RH.one 2 (by kernel_rfl) ?_
        refine RS.st rfl (St.append Try.underlying22 Try.underlying22 ai_nd rfl rfl hO ((hl.ext hS).sl.src ndC_length) (one_flatN l) (by simp only [List.length_nil]; omega)) (by decide) fun v26 w10 hR10 => ?_   -- call append(t24, t25) : 22,22
        have hzS10 := hS.size
        obtain ⟨hO2, hc10, hf2⟩ := hR10
        have hz10 := hc10.size
        have hS := hS.step hc10 (fun k h => by simp [Value.ownBlock] at h; omega)
        have hf2 : ∀ k, v26.ownBlock = some k → w2.heap.size ≤ k := by
          rcases hf2 with h | h
          · intro k hk; rw [h] at hk; simp [Value.ownBlock] at hk; omega
          · intro k hk; have := h k hk; omega
        try have hB28 := hB28.chg hc10 (fun h => by simp [Value.ownBlock] at h; omega)
        refine ⟨hS, ?_⟩
        refine RH.one 5 (by kernel_rfl) ?_
        refine RS.st rfl (St.append Try.underlying22 Try.underlying22 ai_nd rfl rfl hO2 (Src.one hB28 (ndC_length _)) one_ndC (by rw [List.nil_append, show (List.map ndC l).flatten = flatN l from rfl, flat_length ndC_length]; omega)) (by decide) fun v29 w11 hR11 => ?_   -- call append(t26, t28) : 22,22
        obtain ⟨hO3, hc11, hf3⟩ := hR11
        have hz11 := hc11.size
        have hS := hS.step hc11 (fun k h => hf2 k h)
        refine ⟨hS, ?_⟩
        refine RH.take 6 (fun _ _ _ _ h => h) (by kernel_rfl) hS rfl (by kernel_rfl) (by kernel_rfl) (fun wq hq => Y.assign rfl) (by decide) ?_   -- t7 := assign t29
        refine RH.done (by kernel_rfl) ?_
        have hx12 := hS; have hz12 := hx12.size; have hE := hE.thenExt hx12; have hl := hl.ext hx12; have ha := ha.ext hx12; have hb := hb.ext hx12; have hx0 := hx0.ext hx12; have hB4 := hB4.ext hx12; have hB5 := hB5.ext hx12
        have hO4 : Own w11 TNo 33 v29 (flatN (l ++ [x])) := by simpa [flatN] using hO3
        exact ⟨v29, (by repeat (first | exact Fr.le.nil | refine Fr.le.cons rfl ?_)), ⟨hO4.sl ndC_length (by decide), fun y hy => by
          rcases List.mem_append.1 hy with hy | hy
          · exact hl.ps y hy
          · simp at hy; subst hy; exact hx0⟩, hx12⟩
    · skip
      refine RS.st rfl (St.buildSlice rfl (bs1_nd _)) (by decide) fun v28 w13 hR13 => ?_   -- buildSlice 22 1 [(0,t27)]
      have hzS13 := hS.size
      obtain ⟨g28, rfl, hg28, hB28, hx13⟩ := hR13
      have hz13 := hx13.size
      have hS := hS.thenExt hx13
      have hlt28 := hB28.lt
      try have hO := hO.ext hx13
      try have hO2 := hO2.ext hx13
      refine ⟨hS, ?_⟩
      refine RH.one 0 (by kernel_rfl) ?_
      refine RS.st rfl (St.buildSlice0 Try.underlying22 sz0_apiNode) (by decide) fun v24 w14 hR14 => ?_   -- buildSlice 22 0 []
      have hzS14 := hS.size
      obtain ⟨g24, rfl, hg24, hO, hx14⟩ := hR14
      have hz14 := hx14.size
      have hS := hS.thenExt hx14
      have hlt24 := hO.lt g24 rfl
      try have hB28 := hB28.ext hx14
      refine ⟨hS, ?_⟩
      refine RH.one 2 (by kernel_rfl) ?_
      refine RS.st rfl (St.append Try.underlying22 Try.underlying22 ai_nd rfl rfl hO ((hl.ext hS).sl.src ndC_length) (one_flatN l) (by simp only [List.length_nil]; omega)) (by decide) fun v26 w15 hR15 => ?_   -- call append(t24, t25) : 22,22
      have hzS15 := hS.size
      obtain ⟨hO2, hc15, hf2⟩ := hR15
      have hz15 := hc15.size
      have hS := hS.step hc15 (fun k h => by simp [Value.ownBlock] at h; omega)
      have hf2 : ∀ k, v26.ownBlock = some k → w2.heap.size ≤ k := by
        rcases hf2 with h | h
        · intro k hk; rw [h] at hk; simp [Value.ownBlock] at hk; omega
        · intro k hk; have := h k hk; omega
      try have hB28 := hB28.chg hc15 (fun h => by simp [Value.ownBlock] at h; omega)
      refine ⟨hS, ?_⟩
      refine RH.one 5 (by kernel_rfl) ?_
      refine RS.st rfl (St.append Try.underlying22 Try.underlying22 ai_nd rfl rfl hO2 (Src.one hB28 (ndC_length _)) one_ndC (by rw [List.nil_append, show (List.map ndC l).flatten = flatN l from rfl, flat_length ndC_length]; omega)) (by decide) fun v29 w16 hR16 => ?_   -- call append(t26, t28) : 22,22
      obtain ⟨hO3, hc16, hf3⟩ := hR16
      have hz16 := hc16.size
      have hS := hS.step hc16 (fun k h => hf2 k h)
      refine ⟨hS, ?_⟩
      refine RH.take 6 (fun _ _ _ _ h => h) (by kernel_rfl) hS rfl (by kernel_rfl) (by kernel_rfl) (fun wq hq => Y.assign rfl) (by decide) ?_   -- t7 := assign t29
      refine RH.done (by kernel_rfl) ?_
      have hx17 := hS; have hz17 := hx17.size; have hE := hE.thenExt hx17; have hl := hl.ext hx17; have ha := ha.ext hx17; have hb := hb.ext hx17; have hx0 := hx0.ext hx17; have hB4 := hB4.ext hx17; have hB5 := hB5.ext hx17
      have hO4 : Own w16 TNo 33 v29 (flatN (l ++ [x])) := by simpa [flatN] using hO3
      exact ⟨v29, (by repeat (first | exact Fr.le.nil | refine Fr.le.cons rfl ?_)), ⟨hO4.sl ndC_length (by decide), fun y hy => by
        rcases List.mem_append.1 hy with hy | hy
        · exact hl.ps y hy
        · simp at hy; subst hy; exact hx0⟩, hx17⟩
  rintro u w18 hj18
  obtain ⟨hm, hx18⟩ := hj18
  have hz18 := hx18.size
  have hE := hE.thenExt hx18
  have hl := hl.ext hx18
  have ha := ha.ext hx18
  have hb := hb.ext hx18
  have hB5 := hB5.ext hx18
  have hx0 := hx0.ext hx18
  have hB4 := hB4.ext hx18
  refine CW.seq fun K2 hK2 => ?_
  refine CW.region ?_   -- region 2
  refine WL.val (Y.move rfl) (by decide) ?_   -- t31 := move t7
  refine WL.call Try.func20 rfl rfl rfl (gcheck_any _ (l ++ [x]) _ hm) (by simp) ?_; rintro v w19 ⟨rfl, hx19⟩; have hz19 := hx19.size; have hE := hE.thenExt hx19; have hl := hl.ext hx19; have ha := ha.ext hx19; have hb := hb.ext hx19; have hx0 := hx0.ext hx19; have hB4 := hB4.ext hx19; have hB5 := hB5.ext hx19   -- t32 := call F20(t31) : 22
  refine WL.val (Y.move rfl) (by decide) ?_   -- t30 := move t32
  refine WL.val (Y.extract rfl rfl) (by decide) ?_   -- t33 := extract t30 0
  refine WL.val (Y.extract rfl rfl) (by decide) ?_   -- t34 := extract t30 1
  refine WL.val (Y.assign rfl) (by decide) ?_   -- t8 := assign t33
  refine WL.val (Y.assign rfl) (by decide) ?_   -- t9 := assign t34
  refine WL.nil ?_
  refine hK2 _ _ ?_; try clear hK2 K2
  refine CW.seq fun K3 hK3 => ?_
  refine CW.seq_testE 46 ((readE (ndsL (l ++ [x]))).2 ≠ 0 ∨ wrongQ (ndsL l) (a ++ b) ≠ 0) ?_ ?_
  · refine CW.region ?_
    refine WL.val (Y.move rfl) (by decide) ?_   -- t35 := move t9
    refine WL.val (Y.neq rfl rfl) (by decide) ?_   -- t36 := binOp neq 24 t35 c(0:i64) 24
    refine WL.val (Y.move rfl) (by decide) ?_   -- t37 := move t36
    first | refine WL.casesD (d := 37) rfl (fun hg37 => ?_) (fun hg37 => ?_) | refine WL.casesND (d := 37) rfl (fun hg37 => ?_) (fun hg37 => ?_) | refine WL.cases (d := 37) rfl (fun hg37 => ?_) (fun hg37 => ?_)
    · -- t37 = T
      refine WL.goff rfl rfl (by decide) ?_   -- t38 := move t0 [if 2=false]
      refine WL.goff rfl rfl (by decide) ?_   -- t39 := indexAddr 53 t5 c(0:i64) [if 2=false]
      refine WL.goff rfl rfl (by decide) ?_   -- t40 := load 23 t39 [if 2=false]
      refine WL.goff rfl rfl (by decide) ?_   -- t41 := indexAddr 53 t5 c(1:i64) [if 2=false]
      refine WL.goff rfl rfl (by decide) ?_   -- t42 := load 23 t41 [if 2=false]
      refine WL.goff rfl rfl (by decide) ?_   -- t43 := call F19(t40, t42) : 23,23 [if 2=false]
      refine WL.goff rfl rfl (by decide) ?_   -- t44 := call F15(t38, t43) : 22,23 [if 2=false]
      refine WL.goff rfl rfl (by decide) ?_   -- t45 := binOp neq 3 t44 c(0:i64) 3 [if 2=false]
      refine WL.val (Y.pick rfl rfl) (by decide) ?_   -- t46 := pick t37 c(true) t45
      refine WL.nil ⟨⟨_, rfl, ?_⟩, Chg.refl, (by repeat (first | exact Fr.le.refl | refine Fr.le.push rfl ?_))⟩
      first | (simp only [*, Int.natCast_inj, Bool.not_eq_true', decide_eq_false_iff_not, decide_eq_true_eq, not_true_eq_false, not_false_eq_true, true_and, false_and, and_true, and_false, false_or, or_false, true_or, or_true, iff_true, true_iff, iff_false, false_iff]; done) | (simp_all; done) | (refine congrArg Value.bool (Bool.eq_iff_iff.2 ?_); simp_all; done) | (simp_all; omega)
    · -- t37 = F
      refine WL.gval rfl rfl (Y.move rfl) (by decide) ?_   -- t38 := move t0 [if 2=false]
      refine WL.gval rfl rfl (Y.indexAddrAN (i := 0) Try.underlying53 rfl rfl sz0_sapiDigest (by decide)) (by decide) ?_   -- t39 := indexAddr 53 t5 c(0:i64) [if 2=false]
      refine WL.gval rfl rfl (Y.load1 Try.underlying23 rfl ((hB5).mem.cell 0 rfl) rfl) (by decide) ?_   -- t40 := load 23 t39 [if 2=false]
      refine WL.gval rfl rfl (Y.indexAddrAN (i := 1) Try.underlying53 rfl rfl sz0_sapiDigest (by decide)) (by decide) ?_   -- t41 := indexAddr 53 t5 c(1:i64) [if 2=false]
      refine WL.gval rfl rfl (Y.load1 Try.underlying23 rfl ((hB5).mem.cell 1 rfl) rfl) (by decide) ?_   -- t42 := load 23 t41 [if 2=false]
      refine WL.gcall rfl rfl Try.func19 rfl rfl rfl (two_sl _ _ a b _ ha hb (by omega)) (by decide) ?_; rintro v43 w20 hR20   -- t43 := call F19(t40, t42) : 23,23 [if 2=false]
      obtain ⟨ht20, hx20⟩ := hR20
      skip; have hz20 := hx20.size; have hE := hE.thenExt hx20; have hl := hl.ext hx20; have ha := ha.ext hx20; have hb := hb.ext hx20; have hx0 := hx0.ext hx20; have hB4 := hB4.ext hx20; have hB5 := hB5.ext hx20
      refine WL.gcall rfl rfl Try.func15 rfl rfl rfl (rWrong_any _ _ l (a ++ b) _ hl ht20) (by decide) ?_; rintro v w21 ⟨rfl, hx21⟩; have hz21 := hx21.size; have hE := hE.thenExt hx21; have hl := hl.ext hx21; have ha := ha.ext hx21; have hb := hb.ext hx21; have hx0 := hx0.ext hx21; have hB4 := hB4.ext hx21; have hB5 := hB5.ext hx21   -- t44 := call F15(t38, t43) : 22,23 [if 2=false]
      refine WL.gval rfl rfl (Y.neq rfl rfl) (by decide) ?_   -- t45 := binOp neq 3 t44 c(0:i64) 3 [if 2=false]
      refine WL.val (Y.pick rfl rfl) (by decide) ?_   -- t46 := pick t37 c(true) t45
      refine WL.nil ⟨⟨_, rfl, ?_⟩, (hx20.thenExt hx21), (by repeat (first | exact Fr.le.refl | refine Fr.le.push rfl ?_))⟩
      first | (simp only [*, Int.natCast_inj, Bool.not_eq_true', decide_eq_false_iff_not, decide_eq_true_eq, not_true_eq_false, not_false_eq_true, true_and, false_and, and_true, and_false, false_or, or_false, true_or, or_true, iff_true, true_iff, iff_false, false_iff]; done) | (simp_all; done) | (refine congrArg Value.bool (Bool.eq_iff_iff.2 ?_); simp_all; done) | (simp_all; omega)
  intro w22 hx22; have hz22 := hx22.size; have hE := hE.thenExt hx22; have hl := hl.ext hx22; have ha := ha.ext hx22; have hb := hb.ext hx22; have hx0 := hx0.ext hx22; have hB4 := hB4.ext hx22; have hB5 := hB5.ext hx22
  first | refine CW.condD rfl (fun ht4 => ?_) (fun ht4 => ?_) | refine CW.condND rfl (fun ht4 => ?_) (fun ht4 => ?_) | refine CW.condN rfl (fun ht4 => ?_) (fun ht4 => ?_) | refine CW.cond rfl (fun ht4 => ?_) (fun ht4 => ?_)
  · -- then
    refine CW.seq fun K5 hK5 => ?_
    refine CW.region ?_   -- region 4
    refine WL.call Try.func18 rfl rfl rfl (alive_any _) (by simp) ?_; rintro v w23 ⟨rfl, hx23⟩; have hz23 := hx23.size; have hE := hE.thenExt hx23; have hl := hl.ext hx23; have ha := ha.ext hx23; have hb := hb.ext hx23; have hx0 := hx0.ext hx23; have hB4 := hB4.ext hx23; have hB5 := hB5.ext hx23   -- t47 := call F18() : 
    refine WL.val (Y.assign rfl) (by decide) ?_   -- t6 := assign t47
    refine WL.nil ?_
    refine hK5 _ _ ?_; try clear hK5 K5
    refine CW.ret ⟨_, rfl, ?_⟩
    exact ⟨rfl, hE⟩
  -- else
  refine CW.skip ?_
  refine hK3 _ _ ?_; try clear hK3 K3
  refine CW.seq fun K6 hK6 => ?_
  have hokm : (readE (ndsL (l ++ [x]))).2 = 0 := by omega
  have hq : wrongQ (ndsL l) (a ++ b) = 0 := by omega
  have hia : ∀ d ∈ a, d ∈ idsL (ndsL l) := fun d hd => wrongQ_in7 hq d (List.mem_append_left _ hd)
  have hib : ∀ d ∈ b, d ∈ idsL (ndsL l) := fun d hd => wrongQ_in7 hq d (List.mem_append_right _ hd)
  have eM : (ndsL (l ++ [x])) = ndsL l ++ [x.n] := by simp [ndsL]
  rw [eM] at hokm
  have g := more_grow hokm
  rw [← eM] at g
  have hz1 : wrongQ (ndsL (l ++ [x])) (a ++ b) = 0 := wrongQ_zero g.okm (g.hin (app_in hia hib))
  have hz2 : wrongQ (ndsL (l ++ [x])) a = 0 := wrongQ_zero g.okm (g.hin hia)
  have hz3 : wrongQ (ndsL (l ++ [x])) b = 0 := wrongQ_zero g.okm (g.hin hib)
  have hcm : cmX (ndsL (l ++ [x])) a b = cmX (ndsL l) a b := by rw [cmX, cmX, if_pos hz1, if_pos hq, g.cmL hia hib]
  have hor : orX (ndsL (l ++ [x])) a = orX (ndsL l) a := by rw [orX, orX, if_pos hz2, if_pos (wrongQ_zero g.okl hia), g.ordL hia]
  have hhd : hdX (ndsL (l ++ [x])) b = hdX (ndsL l) b := by rw [hdX, hdX, if_pos hz3, if_pos (wrongQ_zero g.okl hib), g.hdL hib]
  refine CW.quiet (fun wq => Ext w22 wq) (by kernel_rfl) (by kernel_rfl) Chg.drew ?_
  refine QL.val (fun wq hq => Y.indexAddrAN (i := 0) Try.underlying53 rfl rfl sz0_sapiDigest (by decide)) (by decide) ?_   -- t48 := indexAddr 53 t5 c(0:i64)
  refine QL.val (fun wq hq => Y.load1 Try.underlying23 rfl ((hB5.ext hq).mem.cell 0 rfl) rfl) (by decide) ?_   -- t49 := load 23 t48
  refine QL.val (fun wq hq => Y.indexAddrAN (i := 1) Try.underlying53 rfl rfl sz0_sapiDigest (by decide)) (by decide) ?_   -- t50 := indexAddr 53 t5 c(1:i64)
  refine QL.val (fun wq hq => Y.load1 Try.underlying23 rfl ((hB5.ext hq).mem.cell 1 rfl) rfl) (by decide) ?_   -- t51 := load 23 t50
  refine QL.val (fun wq hq => Y.assign rfl) (by decide) ?_   -- t10 := assign t49
  refine QL.val (fun wq hq => Y.assign rfl) (by decide) ?_   -- t11 := assign t51
  refine QL.nil fun w24 hx24 => ?_
  have hz24 := hx24.size
  have hE := hE.thenExt hx24
  have hl := hl.ext hx24
  have ha := ha.ext hx24
  have hb := hb.ext hx24
  have hx0 := hx0.ext hx24
  have hB4 := hB4.ext hx24
  have hB5 := hB5.ext hx24
  refine hK6 _ _ ?_; try clear hK6 K6
  refine CW.seq fun K7 hK7 => ?_
  refine CW.region ?_   -- region 6
  refine WL.val (Y.move rfl) (by decide) ?_   -- t53 := move t0
  refine WL.val (Y.move rfl) (by decide) ?_   -- t54 := move t10
  refine WL.val (Y.move rfl) (by decide) ?_   -- t55 := move t11
  refine WL.call Try.func28 rfl rfl rfl (gCommonX_any _ _ _ l a b _ hl ha hb) (by simp) ?_; rintro v56 w25 hR25   -- t56 := call F28(t53, t54, t55) : 22,23,23
  obtain ⟨hv25, rfl, hS1, hx25⟩ := hR25
  have hm := (((hm.ext hx19).ext hx22).ext hx24).ext hx25
  skip; have hz25 := hx25.size; have hE := hE.thenExt hx25; have hl := hl.ext hx25; have ha := ha.ext hx25; have hb := hb.ext hx25; have hx0 := hx0.ext hx25; have hB4 := hB4.ext hx25; have hB5 := hB5.ext hx25
  refine WL.val (Y.move rfl) (by decide) ?_   -- t52 := move t56
  refine WL.val (Y.extract rfl rfl) (by decide) ?_   -- t57 := extract t52 0
  refine WL.val (Y.extract rfl rfl) (by decide) ?_   -- t58 := extract t52 1
  refine WL.val (Y.assign rfl) (by decide) ?_   -- t12 := assign t57
  refine WL.val (Y.assign rfl) (by decide) ?_   -- t13 := assign t58
  refine WL.nil ?_
  refine hK7 _ _ ?_; try clear hK7 K7
  refine CW.seq fun K8 hK8 => ?_
  refine CW.region ?_   -- region 7
  refine WL.val (Y.move rfl) (by decide) ?_   -- t60 := move t7
  refine WL.val (Y.move rfl) (by decide) ?_   -- t61 := move t10
  refine WL.val (Y.move rfl) (by decide) ?_   -- t62 := move t11
  refine WL.call Try.func28 rfl rfl rfl (gCommonX_any _ _ _ (l ++ [x]) a b _ hm ha hb) (by simp) ?_; rintro v63 w26 hR26   -- t63 := call F28(t60, t61, t62) : 22,23,23
  obtain ⟨hv26, rfl, hS2, hx26⟩ := hR26
  skip; have hz26 := hx26.size; have hE := hE.thenExt hx26; have hl := hl.ext hx26; have ha := ha.ext hx26; have hb := hb.ext hx26; have hx0 := hx0.ext hx26; have hB4 := hB4.ext hx26; have hB5 := hB5.ext hx26; have hm := hm.ext hx26; have hS1 := hS1.ext hx26
  refine WL.val (Y.move rfl) (by decide) ?_   -- t59 := move t63
  refine WL.val (Y.extract rfl rfl) (by decide) ?_   -- t64 := extract t59 0
  refine WL.val (Y.extract rfl rfl) (by decide) ?_   -- t65 := extract t59 1
  refine WL.val (Y.assign rfl) (by decide) ?_   -- t14 := assign t64
  refine WL.val (Y.assign rfl) (by decide) ?_   -- t15 := assign t65
  refine WL.nil ?_
  refine hK8 _ _ ?_; try clear hK8 K8
  refine CW.seq fun K9 hK9 => ?_
  refine CW.region ?_   -- region 8
  refine WL.val (Y.move rfl) (by decide) ?_   -- t67 := move t0
  refine WL.val (Y.move rfl) (by decide) ?_   -- t68 := move t10
  refine WL.call Try.func22 rfl rfl rfl (gOrderX_any _ _ l a _ hl ha) (by simp) ?_; rintro v69 w27 hR27   -- t69 := call F22(t67, t68) : 22,23
  obtain ⟨hv27, rfl, hS3, hx27⟩ := hR27
  skip; have hz27 := hx27.size; have hE := hE.thenExt hx27; have hl := hl.ext hx27; have ha := ha.ext hx27; have hb := hb.ext hx27; have hx0 := hx0.ext hx27; have hB4 := hB4.ext hx27; have hB5 := hB5.ext hx27; have hm := hm.ext hx27; have hS1 := hS1.ext hx27; have hS2 := hS2.ext hx27
  refine WL.val (Y.move rfl) (by decide) ?_   -- t66 := move t69
  refine WL.val (Y.extract rfl rfl) (by decide) ?_   -- t70 := extract t66 0
  refine WL.val (Y.extract rfl rfl) (by decide) ?_   -- t71 := extract t66 1
  refine WL.val (Y.assign rfl) (by decide) ?_   -- t16 := assign t70
  refine WL.val (Y.assign rfl) (by decide) ?_   -- t17 := assign t71
  refine WL.nil ?_
  refine hK9 _ _ ?_; try clear hK9 K9
  refine CW.seq fun K10 hK10 => ?_
  refine CW.region ?_   -- region 9
  refine WL.val (Y.move rfl) (by decide) ?_   -- t73 := move t7
  refine WL.val (Y.move rfl) (by decide) ?_   -- t74 := move t10
  refine WL.call Try.func22 rfl rfl rfl (gOrderX_any _ _ (l ++ [x]) a _ hm ha) (by simp) ?_; rintro v75 w28 hR28   -- t75 := call F22(t73, t74) : 22,23
  obtain ⟨hv28, rfl, hS4, hx28⟩ := hR28
  skip; have hz28 := hx28.size; have hE := hE.thenExt hx28; have hl := hl.ext hx28; have ha := ha.ext hx28; have hb := hb.ext hx28; have hx0 := hx0.ext hx28; have hB4 := hB4.ext hx28; have hB5 := hB5.ext hx28; have hm := hm.ext hx28; have hS1 := hS1.ext hx28; have hS2 := hS2.ext hx28; have hS3 := hS3.ext hx28
  refine WL.val (Y.move rfl) (by decide) ?_   -- t72 := move t75
  refine WL.val (Y.extract rfl rfl) (by decide) ?_   -- t76 := extract t72 0
  refine WL.val (Y.extract rfl rfl) (by decide) ?_   -- t77 := extract t72 1
  refine WL.val (Y.assign rfl) (by decide) ?_   -- t18 := assign t76
  refine WL.val (Y.assign rfl) (by decide) ?_   -- t19 := assign t77
  refine WL.nil ?_
  refine hK10 _ _ ?_; try clear hK10 K10
  refine CW.seq fun K11 hK11 => ?_
  refine CW.region ?_   -- region 10
  refine WL.val (Y.move rfl) (by decide) ?_   -- t79 := move t0
  refine WL.val (Y.move rfl) (by decide) ?_   -- t80 := move t11
  refine WL.call Try.func14 rfl rfl rfl (gHeadsX_any _ _ l b _ hl hb) (by simp) ?_; rintro v81 w29 hR29   -- t81 := call F14(t79, t80) : 22,23
  obtain ⟨hv29, rfl, hS5, hx29⟩ := hR29
  skip; have hz29 := hx29.size; have hE := hE.thenExt hx29; have hl := hl.ext hx29; have ha := ha.ext hx29; have hb := hb.ext hx29; have hx0 := hx0.ext hx29; have hB4 := hB4.ext hx29; have hB5 := hB5.ext hx29; have hm := hm.ext hx29; have hS1 := hS1.ext hx29; have hS2 := hS2.ext hx29; have hS3 := hS3.ext hx29; have hS4 := hS4.ext hx29
  refine WL.val (Y.move rfl) (by decide) ?_   -- t78 := move t81
  refine WL.val (Y.extract rfl rfl) (by decide) ?_   -- t82 := extract t78 0
  refine WL.val (Y.extract rfl rfl) (by decide) ?_   -- t83 := extract t78 1
  refine WL.val (Y.assign rfl) (by decide) ?_   -- t20 := assign t82
  refine WL.val (Y.assign rfl) (by decide) ?_   -- t21 := assign t83
  refine WL.nil ?_
  refine hK11 _ _ ?_; try clear hK11 K11
  refine CW.seq fun K12 hK12 => ?_
  refine CW.region ?_   -- region 11
  refine WL.val (Y.move rfl) (by decide) ?_   -- t85 := move t7
  refine WL.val (Y.move rfl) (by decide) ?_   -- t86 := move t11
  refine WL.call Try.func14 rfl rfl rfl (gHeadsX_any _ _ (l ++ [x]) b _ hm hb) (by simp) ?_; rintro v87 w30 hR30   -- t87 := call F14(t85, t86) : 22,23
  obtain ⟨hv30, rfl, hS6, hx30⟩ := hR30
  skip; have hz30 := hx30.size; have hE := hE.thenExt hx30; have hl := hl.ext hx30; have ha := ha.ext hx30; have hb := hb.ext hx30; have hx0 := hx0.ext hx30; have hB4 := hB4.ext hx30; have hB5 := hB5.ext hx30; have hm := hm.ext hx30; have hS1 := hS1.ext hx30; have hS2 := hS2.ext hx30; have hS3 := hS3.ext hx30; have hS4 := hS4.ext hx30; have hS5 := hS5.ext hx30
  refine WL.val (Y.move rfl) (by decide) ?_   -- t84 := move t87
  refine WL.val (Y.extract rfl rfl) (by decide) ?_   -- t88 := extract t84 0
  refine WL.val (Y.extract rfl rfl) (by decide) ?_   -- t89 := extract t84 1
  refine WL.val (Y.assign rfl) (by decide) ?_   -- t22 := assign t88
  refine WL.val (Y.assign rfl) (by decide) ?_   -- t23 := assign t89
  refine WL.nil ?_
  refine hK12 _ _ ?_; try clear hK12 K12
  refine CW.seq fun K13 hK13 => ?_
  refine CW.region ?_   -- region 12
  refine WL.val (Y.move rfl) (by decide) ?_   -- t90 := move t15
  refine WL.val (Y.eql rfl rfl) (by decide) ?_   -- t91 := binOp eql 24 t90 c(0:i64) 24
  refine WL.val (Y.move rfl) (by decide) ?_   -- t92 := move t91
  refine WL.know (d := 92) (u := .bool true) rfl (by rw [decide_eq_true hz1]) ?_
  refine WL.gval rfl rfl (Y.move rfl) (by decide) ?_   -- t93 := move t19 [if 2=true]
  refine WL.gval rfl rfl (Y.eql rfl rfl) (by decide) ?_   -- t94 := binOp eql 24 t93 c(0:i64) 24 [if 2=true]
  refine WL.val (Y.pick rfl rfl) (by decide) ?_   -- t95 := pick t92 t94 c(false)
  refine WL.val (Y.move rfl) (by decide) ?_   -- t96 := move t95
  refine WL.know (d := 96) (u := .bool true) rfl (by rw [decide_eq_true hz2]) ?_
  refine WL.gval rfl rfl (Y.move rfl) (by decide) ?_   -- t97 := move t23 [if 6=true]
  refine WL.gval rfl rfl (Y.eql rfl rfl) (by decide) ?_   -- t98 := binOp eql 24 t97 c(0:i64) 24 [if 6=true]
  refine WL.val (Y.pick rfl rfl) (by decide) ?_   -- t99 := pick t96 t98 c(false)
  refine WL.val (Y.move rfl) (by decide) ?_   -- t100 := move t99
  refine WL.know (d := 100) (u := .bool true) rfl (by rw [decide_eq_true hz3]) ?_
  refine WL.gval rfl rfl (Y.move rfl) (by decide) ?_   -- t101 := move t12 [if 10=true]
  refine WL.gval rfl rfl (Y.move rfl) (by decide) ?_   -- t102 := move t14 [if 10=true]
  refine WL.gcall rfl rfl Try.func17 rfl rfl rfl (rSameD_any _ _ (cmX (ndsL l) a b) (cmX (ndsL (l ++ [x])) a b) _ hS1 hS2) (by decide) ?_; rintro v w31 ⟨rfl, hx31⟩; have hz31 := hx31.size; have hE := hE.thenExt hx31; have hl := hl.ext hx31; have ha := ha.ext hx31; have hb := hb.ext hx31; have hx0 := hx0.ext hx31; have hB4 := hB4.ext hx31; have hB5 := hB5.ext hx31; have hm := hm.ext hx31; have hS1 := hS1.ext hx31; have hS2 := hS2.ext hx31; have hS3 := hS3.ext hx31; have hS4 := hS4.ext hx31; have hS5 := hS5.ext hx31; have hS6 := hS6.ext hx31   -- t103 := call F17(t101, t102) : 23,23 [if 10=true]
  refine WL.val (Y.pick rfl rfl) (by decide) ?_   -- t104 := pick t100 t103 c(false)
  refine WL.val (Y.move rfl) (by decide) ?_   -- t105 := move t104
  refine WL.know (d := 105) (u := .bool true) rfl (by rw [hcm, decide_eq_true rfl]) ?_
  refine WL.gval rfl rfl (Y.move rfl) (by decide) ?_   -- t106 := move t16 [if 15=true]
  refine WL.gval rfl rfl (Y.move rfl) (by decide) ?_   -- t107 := move t18 [if 15=true]
  refine WL.gcall rfl rfl Try.func17 rfl rfl rfl (rSameD_any _ _ (orX (ndsL l) a) (orX (ndsL (l ++ [x])) a) _ hS3 hS4) (by decide) ?_; rintro v w32 ⟨rfl, hx32⟩; have hz32 := hx32.size; have hE := hE.thenExt hx32; have hl := hl.ext hx32; have ha := ha.ext hx32; have hb := hb.ext hx32; have hx0 := hx0.ext hx32; have hB4 := hB4.ext hx32; have hB5 := hB5.ext hx32; have hm := hm.ext hx32; have hS1 := hS1.ext hx32; have hS2 := hS2.ext hx32; have hS3 := hS3.ext hx32; have hS4 := hS4.ext hx32; have hS5 := hS5.ext hx32; have hS6 := hS6.ext hx32   -- t108 := call F17(t106, t107) : 23,23 [if 15=true]
  refine WL.val (Y.pick rfl rfl) (by decide) ?_   -- t109 := pick t105 t108 c(false)
  refine WL.val (Y.move rfl) (by decide) ?_   -- t110 := move t109
  refine WL.know (d := 110) (u := .bool true) rfl (by rw [hor, decide_eq_true rfl]) ?_
  refine WL.gval rfl rfl (Y.move rfl) (by decide) ?_   -- t111 := move t20 [if 20=true]
  refine WL.gval rfl rfl (Y.move rfl) (by decide) ?_   -- t112 := move t22 [if 20=true]
  refine WL.gcall rfl rfl Try.func17 rfl rfl rfl (rSameD_any _ _ (hdX (ndsL l) b) (hdX (ndsL (l ++ [x])) b) _ hS5 hS6) (by decide) ?_; rintro v w33 ⟨rfl, hx33⟩; have hz33 := hx33.size; have hE := hE.thenExt hx33; have hl := hl.ext hx33; have ha := ha.ext hx33; have hb := hb.ext hx33; have hx0 := hx0.ext hx33; have hB4 := hB4.ext hx33; have hB5 := hB5.ext hx33; have hm := hm.ext hx33; have hS1 := hS1.ext hx33; have hS2 := hS2.ext hx33; have hS3 := hS3.ext hx33; have hS4 := hS4.ext hx33; have hS5 := hS5.ext hx33; have hS6 := hS6.ext hx33   -- t113 := call F17(t111, t112) : 23,23 [if 20=true]
  refine WL.val (Y.pick rfl rfl) (by decide) ?_   -- t114 := pick t110 t113 c(false)
  refine WL.val (Y.move rfl) (by decide) ?_   -- t115 := move t114
  refine WL.know (d := 115) (u := .bool true) rfl (by rw [hhd, decide_eq_true rfl]) ?_
  refine WL.gcall rfl rfl Try.func18 rfl rfl rfl (alive_any _) (by decide) ?_; rintro v w34 ⟨rfl, hx34⟩; have hz34 := hx34.size; have hE := hE.thenExt hx34; have hl := hl.ext hx34; have ha := ha.ext hx34; have hb := hb.ext hx34; have hx0 := hx0.ext hx34; have hB4 := hB4.ext hx34; have hB5 := hB5.ext hx34; have hm := hm.ext hx34; have hS1 := hS1.ext hx34; have hS2 := hS2.ext hx34; have hS3 := hS3.ext hx34; have hS4 := hS4.ext hx34; have hS5 := hS5.ext hx34; have hS6 := hS6.ext hx34   -- t116 := call F18() :  [if 25=true]
  refine WL.val (Y.pick rfl rfl) (by decide) ?_   -- t117 := pick t115 t116 c(false)
  refine WL.val (Y.assign rfl) (by decide) ?_   -- t6 := assign t117
  refine WL.nil ?_
  refine hK13 _ _ ?_; try clear hK13 K13
  refine CW.ret ⟨_, rfl, ?_⟩
  exact ⟨rfl, hE⟩
end Go.Proofs.Ytecolkngbcgmcaa
