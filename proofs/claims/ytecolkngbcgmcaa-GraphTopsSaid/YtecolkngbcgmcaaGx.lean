/- graph.Order, Lacks, walked. No condition. -/
import Derived.Test.YtecolkngbcgmcaaGw
set_option linter.unusedSimpArgs false
set_option linter.unusedVariables false
namespace Go.Pl
open Go.Fw
def lacksL (l : List Nd) (want have_ : List Dig) : List Dig := keptD (bitAt (markS l have_) l) (orderL l (markS l want))
theorem orderD_ids {l : List Nd} {In : List Bool} : ∀ {k : Nat} {C : List Bool} {out : List Dig}, (∀ d ∈ out, d ∈ idsL l) → ∀ d ∈ orderD l In k C out, d ∈ idsL l
  | 0, _, _, h => h
  | k + 1, C, out, h => by
    cases hb : bestD l In C l.length with
    | none => rw [orderD_none hb]; exact h
    | some b =>
      rw [orderD_some hb]
      refine orderD_ids fun d hd => ?_
      rcases List.mem_append.1 hd with hd | hd
      · exact h d hd
      · obtain ⟨n, hn⟩ : ∃ n, l[b]? = some n := ⟨_, List.getElem?_eq_getElem (bestD_some hb).1⟩
        simp [idAt, hn] at hd
        subst hd
        exact List.mem_map.2 ⟨n, List.mem_of_getElem? hn, rfl⟩
theorem orderL_ids {l : List Nd} {In : List Bool} {d : Dig} (h : d ∈ orderL l In) : d ∈ idsL l := orderD_ids (fun d h => by cases h) d h
end Go.Pl
namespace Go.Proofs.Ytecolkngbcgmcaa
open Go.RowKit Go.Fw Go.Pl Go.Sort

set_option maxHeartbeats 1000000 in
theorem gOrder_any (u v0 : Value) (l : List NdV) (ids : List Dig) (w : World) (hl : Nds w u l) (hd : Sl w digC 32 v0 ids) : Calls Try.prog 22 #[u, v0] w (Ret fun v w' => ∃ hv, v = .tuple #[hv, .int .i64 (wrongQ (ndsL l) ids)] ∧ Own w' TDg 32 hv (flatD (if wrongQ (ndsL l) ids = 0 then orderL (ndsL l) (markS (ndsL l) ids) else [])) ∧ (∀ k, hv.ownBlock = some k → w.heap.size ≤ k) ∧ Ext w w') := by
  have hl0 := hl
  obtain ⟨A, c, rfl, hmc, hcm⟩ := hl.sl.lens
  unfold maxLen at hcm
  have hd0 := hd
  obtain ⟨A1, m1, c1, rfl, hdm, hdc, hdx, hdg⟩ := hd
  unfold maxLen at hdx
  have hnl : (ndsL l).length = l.length := by simp
  refine calls_of_CW 23 [4, 5] [(0, .slice A l.length c), (1, .slice A1 m1 c1)] Try.func22 rfl rfl rfl (by simp) args2 ?_
  have hE : Ext w w := Chg.refl
  refine CW.seq fun K1 hK1 => ?_
  refine CW.region ?_   -- region 0
  refine WL.val (Y.assign rfl) (by decide) ?_   -- t4 := assign c(nilslice)
  refine WL.val (Y.assign rfl) (by decide) ?_   -- t5 := assign c(0:i64)
  refine WL.nil ?_
  refine hK1 _ _ ?_; try clear hK1 K1
  refine CW.seq fun K2 hK2 => ?_
  refine CW.region ?_   -- region 1
  refine WL.val (Y.move rfl) (by decide) ?_   -- t9 := move t0
  refine WL.val (Y.move rfl) (by decide) ?_   -- t10 := move t1
  refine WL.st (St.buildSlice rfl (bs1_sd _ _ _)) (by decide) fun v11 w1 hR1 => ?_   -- t11 := buildSlice 78 1 [(0,t10)]
  obtain ⟨g14, rfl, hg14, hB14, hx1⟩ := hR1
  have hz1 := hx1.size
  have hE := hE.thenExt hx1
  refine WL.call Try.func35 rfl rfl rfl (gbegin_any _ _ l [(.slice A1 m1 c1, ids)] _ (hl0.ext hx1) (Blk.slV (ds := [(.slice A1 m1 c1, ids)]) hB14 (by simp [maxLen])) (fun x hx => by simp at hx; subst hx; exact hd0.ext hx1)) (by simp) ?_; rintro v12 w2 hR2   -- t12 := call F35(t9, t11) : 22,78
  obtain ⟨p, rfl, hx2, hp⟩ := hR2
  have hz2 := hx2.size
  have hE := hE.thenExt hx2
  have hfl : ([((.slice A1 m1 c1 : Value), ids)].map Prod.snd).flatten = ids := by simp
  simp only [hfl] at hp ⊢
  refine WL.val (Y.move rfl) (by decide) ?_   -- t8 := move t12
  refine WL.val (Y.extract rfl rfl) (by decide) ?_   -- t13 := extract t8 0
  refine WL.val (Y.extract rfl rfl) (by decide) ?_   -- t14 := extract t8 1
  refine WL.val (Y.assign rfl) (by decide) ?_   -- t6 := assign t13
  refine WL.val (Y.assign rfl) (by decide) ?_   -- t7 := assign t14
  refine WL.nil ?_
  refine hK2 _ _ ?_; try clear hK2 K2
  refine CW.seq fun K3 hK3 => ?_
  refine CW.seq fun K4 hK4 => ?_
  refine CW.region ?_   -- region 2
  refine WL.val (Y.move rfl) (by decide) ?_   -- t15 := move t7
  refine WL.val (Y.neq rfl rfl) (by decide) ?_   -- t16 := binOp neq 24 t15 c(0:i64) 24
  refine WL.nil ?_
  refine hK4 _ _ ?_; try clear hK4 K4
  first | refine CW.condD rfl (fun ht5 => ?_) (fun ht5 => ?_) | refine CW.condND rfl (fun ht5 => ?_) (fun ht5 => ?_) | refine CW.condN rfl (fun ht5 => ?_) (fun ht5 => ?_) | refine CW.cond rfl (fun ht5 => ?_) (fun ht5 => ?_)
  · -- then
    refine CW.seq fun K6 hK6 => ?_
    refine CW.region ?_   -- region 3
    refine WL.val (Y.move rfl) (by decide) ?_   -- t17 := move t7
    refine WL.val (Y.assign rfl) (by decide) ?_   -- t4 := assign c(nilslice)
    refine WL.val (Y.assign rfl) (by decide) ?_   -- t5 := assign t17
    refine WL.nil ?_
    refine hK6 _ _ ?_; try clear hK6 K6
    refine CW.ret ⟨_, rfl, ?_⟩
    have he : ¬ wrongQ (ndsL l) ids = 0 := by assumption
    exact ⟨_, rfl, by rw [if_neg he]; exact Own.nil, (fun k h => by simp [Value.ownBlock] at h), hE⟩
  -- else
  refine CW.skip ?_
  refine hK3 _ _ ?_; try clear hK3 K3
  refine CW.seq fun K7 hK7 => ?_
  have hq0 : wrongQ (ndsL l) ids = 0 := Decidable.not_not.1 (by assumption)
  obtain ⟨gk, r, sb, rfl, hK⟩ := hp hq0
  have hin := wrongQ_in hq0
  have hnew := hK.new
  refine CW.region ?_   -- region 4
  refine WL.val (Y.move rfl) (by decide) ?_   -- t18 := move t6
  refine WL.val (Y.move rfl) (by decide) ?_   -- t19 := move t6
  refine WL.val (Y.move rfl) (by decide) ?_   -- t20 := move t1
  refine WL.call Try.func42 rfl rfl rfl (gmarks_any w1 _ gk r sb _ _ l ids _ hK (hd0.ext hx1) hin) (by simp) ?_; rintro v21 w3 hR3   -- t21 := call F42(t19, t20) : 55,23
  obtain ⟨b, rfl, hb, hIn, ⟨S3, hK⟩, hc3⟩ := hR3
  have hz3 := hc3.size
  have hE := hE.step hc3 (fun k h => by omega)
  refine WL.call Try.func41 rfl rfl rfl (gorderL_any w1 _ gk r sb b _ l S3 (markS (ndsL l) ids) hK hIn (by rw [markS, setI_length, List.length_replicate, hnl])) (by simp) ?_; rintro v22 w4 hR4   -- t22 := call F41(t18, t21) : 55,58
  obtain ⟨hO, hfu, hx4⟩ := hR4
  have hz4 := hx4.size
  have hE := hE.thenExt hx4
  refine WL.val (Y.assign rfl) (by decide) ?_   -- t4 := assign t22
  refine WL.val (Y.assign rfl) (by decide) ?_   -- t5 := assign c(0:i64)
  refine WL.nil ?_
  refine hK7 _ _ ?_; try clear hK7 K7
  refine CW.ret ⟨_, rfl, ?_⟩
  exact ⟨_, by rw [hq0], by rw [if_pos hq0]; exact hO, fun k hk => by have := hfu k hk; omega, hE⟩
set_option maxRecDepth 100000 in
set_option maxHeartbeats 2000000 in
theorem gLacks_any (u va vb : Value) (l : List NdV) (a b : List Dig) (w : World) (hl : Nds w u l) (ha : Sl w digC 32 va a) (hb : Sl w digC 32 vb b) : Calls Try.prog 23 #[u, va, vb] w (Ret fun v w' => ∃ hv, v = .tuple #[hv, .int .i64 (wrongQ (ndsL l) (a ++ b))] ∧ Own w' TDg 32 hv (flatD (if wrongQ (ndsL l) (a ++ b) = 0 then lacksL (ndsL l) a b else [])) ∧ (∀ k, hv.ownBlock = some k → w.heap.size ≤ k) ∧ Ext w w') := by
  have hl0 := hl
  obtain ⟨A, c, rfl, hmc, hcm⟩ := hl.sl.lens
  unfold maxLen at hcm
  have ha0 := ha
  have hb0 := hb
  obtain ⟨A1, m1, c1, rfl, ham, hac, hax, hag⟩ := ha
  obtain ⟨A2, m2, c2, rfl, hbm, hbc, hbx, hbg⟩ := hb
  unfold maxLen at hax hbx
  have hnl : (ndsL l).length = l.length := by simp
  refine calls_of_CW 34 [6, 7] [(0, .slice A l.length c), (1, .slice A1 m1 c1), (2, .slice A2 m2 c2)] Try.func23 rfl rfl rfl (by simp) args3 ?_
  have hE : Ext w w := Chg.refl
  refine CW.seq fun K1 hK1 => ?_
  refine CW.region ?_   -- region 0
  refine WL.val (Y.assign rfl) (by decide) ?_   -- t6 := assign c(nilslice)
  refine WL.val (Y.assign rfl) (by decide) ?_   -- t7 := assign c(0:i64)
  refine WL.nil ?_
  refine hK1 _ _ ?_; try clear hK1 K1
  refine CW.seq fun K2 hK2 => ?_
  refine CW.region ?_   -- region 1
  refine WL.val (Y.move rfl) (by decide) ?_   -- t13 := move t0
  refine WL.val (Y.move rfl) (by decide) ?_   -- t14 := move t1
  refine WL.val (Y.move rfl) (by decide) ?_   -- t15 := move t2
  refine WL.st (St.buildSlice rfl (bs2_sd _ _ _ _ _ _)) (by decide) fun v16 w1 hR1 => ?_   -- t16 := buildSlice 78 2 [(0,t14), (1,t15)]
  obtain ⟨g15, rfl, hg15, hB15, hx1⟩ := hR1
  have hz1 := hx1.size
  have hE := hE.thenExt hx1
  refine WL.call Try.func35 rfl rfl rfl (gbegin_any _ _ l [(.slice A1 m1 c1, a), (.slice A2 m2 c2, b)] _ (hl0.ext hx1) (Blk.slV (ds := [(.slice A1 m1 c1, a), (.slice A2 m2 c2, b)]) hB15 (by simp [maxLen])) (fun x hx => by simp at hx; rcases hx with rfl | rfl; exact ha0.ext hx1; exact hb0.ext hx1)) (by simp) ?_; rintro v17 w2 hR2   -- t17 := call F35(t13, t16) : 22,78
  obtain ⟨p, rfl, hx2, hp⟩ := hR2
  have hz2 := hx2.size
  have hE := hE.thenExt hx2
  have hfl : (List.map Prod.snd ([(.slice A1 m1 c1, a), (.slice A2 m2 c2, b)] : List (Value × List Dig))).flatten = a ++ b := by simp
  simp only [hfl] at hp ⊢
  refine WL.val (Y.move rfl) (by decide) ?_   -- t12 := move t17
  refine WL.val (Y.extract rfl rfl) (by decide) ?_   -- t18 := extract t12 0
  refine WL.val (Y.extract rfl rfl) (by decide) ?_   -- t19 := extract t12 1
  refine WL.allocStore1 (by kernel_rfl) rfl (by simp) rfl rfl (by decide) fun g8 w3 hx3 hg8 hB8 => ?_   -- alloc 55; store 55 t8 t18
  have hlt8 := hB8.lt; have hz3 := hx3.size
  have hM8 := hB8.mem; have hz3 := hx3.size; have hE := hE.thenExt hx3
  refine WL.val (Y.assign rfl) (by decide) ?_   -- t9 := assign t19
  refine WL.nil ?_
  refine hK2 _ _ ?_; try clear hK2 K2
  refine CW.seq fun K3 hK3 => ?_
  refine CW.seq fun K4 hK4 => ?_
  refine CW.region ?_   -- region 2
  refine WL.val (Y.move rfl) (by decide) ?_   -- t20 := move t9
  refine WL.val (Y.neq rfl rfl) (by decide) ?_   -- t21 := binOp neq 24 t20 c(0:i64) 24
  refine WL.nil ?_
  refine hK4 _ _ ?_; try clear hK4 K4
  first | refine CW.condD rfl (fun ht5 => ?_) (fun ht5 => ?_) | refine CW.condND rfl (fun ht5 => ?_) (fun ht5 => ?_) | refine CW.condN rfl (fun ht5 => ?_) (fun ht5 => ?_) | refine CW.cond rfl (fun ht5 => ?_) (fun ht5 => ?_)
  · -- then
    refine CW.seq fun K6 hK6 => ?_
    refine CW.region ?_   -- region 3
    refine WL.val (Y.move rfl) (by decide) ?_   -- t22 := move t9
    refine WL.val (Y.assign rfl) (by decide) ?_   -- t6 := assign c(nilslice)
    refine WL.val (Y.assign rfl) (by decide) ?_   -- t7 := assign t22
    refine WL.nil ?_
    refine hK6 _ _ ?_; try clear hK6 K6
    refine CW.ret ⟨_, rfl, ?_⟩
    have he : ¬ wrongQ (ndsL l) (a ++ b) = 0 := by assumption
    exact ⟨_, rfl, by rw [if_neg he]; exact Own.nil, (fun k h => by simp [Value.ownBlock] at h), hE⟩
  -- else
  refine CW.skip ?_
  refine hK3 _ _ ?_; try clear hK3 K3
  have hq0 : wrongQ (ndsL l) (a ++ b) = 0 := Decidable.not_not.1 (by assumption)
  obtain ⟨gk, r, sb, rfl, hK⟩ := hp hq0
  have hin := wrongQ_in hq0
  have hln := ok_len hK.ok
  have hltK := hK.lt
  have hnew := hK.new
  have hK := hK.ext hx3
  refine CW.seq_to (X := Value × Nat × Nat × List Bool) (fun u => [(8, .pointer (some ⟨g8, 0, none⟩)), (10, u.1), (11, .pointer (some ⟨u.2.1, 0, none⟩))]) (fun u w0 => LookAt w1 w0 gk r sb (.slice A l.length c) l u.2.2.2 ∧ Blk w0 u.2.1 TSb [.slice (some ⟨u.2.2.1, 0, none⟩) l.length l.length] ∧ Blk w0 u.2.2.1 TBo (boolC (markS (ndsL l) b)) ∧ Own w0 TDg 32 u.1 (flatD (orderL (ndsL l) (markS (ndsL l) a))) ∧ (∀ k, u.1.ownBlock = some k → w3.heap.size ≤ k ∧ k ≠ u.2.1 ∧ k ≠ u.2.2.1) ∧ Blk w0 g8 TPk [.pointer (some ⟨gk, 0, none⟩)] ∧ Ext w w0 ∧ w3.heap.size ≤ w0.heap.size) ?_ ?_
  · skip
    refine CW.held (fun wq => Chg (fun k => k = sb) w3 wq) (by kernel_rfl) 11 rfl fun w4 hx4 => ?_
    have hS : Chg (fun k => k = sb) w3 w4 := hx4.chg
    have hz4 := hx4.size
    have hE := hE.thenExt hx4
    have hK := hK.ext hx4
    refine RH.take 0 (fun _ _ _ _ h => h) (by kernel_rfl) hS rfl (by kernel_rfl) (by kernel_rfl) (fun wq hq => Y.load1 Try.underlying55 rfl (hB8.chg hq (fun h => by omega)).mem.cell0 rfl) (by decide) ?_   -- t23 := load 55 t8
    refine RH.take 1 (fun _ _ _ _ h => h) (by kernel_rfl) hS rfl (by kernel_rfl) (by kernel_rfl) (fun wq hq => Y.load1 Try.underlying55 rfl (hB8.chg hq (fun h => by omega)).mem.cell0 rfl) (by decide) ?_   -- t24 := load 55 t8
    refine RH.take 2 (fun _ _ _ _ h => h) (by kernel_rfl) hS rfl (by kernel_rfl) (by kernel_rfl) (fun wq hq => Y.move rfl) (by decide) ?_   -- t25 := move t1
    refine RH.take 5 (fun _ _ _ _ h => h) (by kernel_rfl) hS rfl (by kernel_rfl) (by kernel_rfl) (fun wq hq => Y.load1 Try.underlying55 rfl (hB8.chg hq (fun h => by omega)).mem.cell0 rfl) (by decide) ?_   -- t28 := load 55 t8
    refine RH.take 6 (fun _ _ _ _ h => h) (by kernel_rfl) hS rfl (by kernel_rfl) (by kernel_rfl) (fun wq hq => Y.move rfl) (by decide) ?_   -- t29 := move t2
    refine RH.two 3 8 (by kernel_rfl) ?_ ?_
    · skip
      refine RS.call rfl (fun _ _ h => by cases h) Try.func42 rfl rfl rfl (gmarks_any w1 _ gk r sb _ _ l a _ hK (ha0.ext hx1) (fun d hd => hin d (List.mem_append_left _ hd))) (by decide) fun v26 w5 hR5 => ?_   -- call F42(t24, t25) : 55,23
      obtain ⟨ba, rfl, hba, hIn, ⟨S3, hK⟩, hc5⟩ := hR5
      have hz5 := hc5.size
      have hS := hS.trans hc5 (fun _ _ h => h)
      have hE := hE.step hc5 (fun k h => by omega)
      have hltA := hIn.lt
      try have hG := hG.chg hc5 (fun h => by omega)
      refine ⟨hS, ?_⟩
      refine RH.two 4 8 (by kernel_rfl) ?_ ?_
      · skip
        refine RS.call rfl (fun _ _ h => by cases h) Try.func41 rfl rfl rfl (gorderL_any w1 _ gk r sb ba _ l S3 (markS (ndsL l) a) hK hIn (by rw [markS, setI_length, List.length_replicate, hnl])) (by decide) fun v27 w6 hR6 => ?_   -- call F41(t23, t26) : 55,58
        obtain ⟨hO, hfu, hx6⟩ := hR6
        have hz6 := hx6.size
        have hS := hS.thenExt hx6
        have hE := hE.thenExt hx6
        have hK := hK.ext hx6
        try have hne : ∀ k, v27.ownBlock = some k → k ≠ g11 := fun k hk => by have := hfu k hk; omega
        have hfu : ∀ k, v27.ownBlock = some k → w3.heap.size ≤ k := fun k hk => by have := hfu k hk; omega
        try have hG := hG.ext hx6
        refine ⟨hS, ?_⟩
        refine RH.two 7 8 (by kernel_rfl) ?_ ?_
        · skip
          refine RS.call rfl (fun _ _ h => by cases h) Try.func42 rfl rfl rfl (gmarks_any w1 _ gk r sb _ _ l b _ hK (hb0.ext hx1) (fun d hd => hin d (List.mem_append_right _ hd))) (by decide) fun v30 w7 hR7 => ?_   -- call F42(t28, t29) : 55,23
          obtain ⟨b2, rfl, hb2, hIn2, ⟨S4, hK⟩, hc7⟩ := hR7
          have hz7 := hc7.size
          have hS := hS.trans hc7 (fun _ _ h => h)
          have hE := hE.step hc7 (fun k h => by omega)
          have hltB := hIn2.lt
          have hnb : ∀ k, v27.ownBlock = some k → k ≠ b2 := fun k hk => by have := hO.lt k hk; omega
          have hO := hO.chg hc7 (fun k hk h => by have := hfu k hk; omega)
          try have hG := hG.chg hc7 (fun h => by omega)
          refine ⟨hS, ?_⟩
          refine RH.one 8 (by kernel_rfl) ?_
          refine RS.st rfl (St.alloc1 (z := .slice none 0 0) (by kernel_rfl) rfl) (by decide) fun v11 w8 hR8 => ?_   -- alloc 58
          obtain ⟨g11, rfl, hg11, hG, hx8⟩ := hR8
          have hz8 := hx8.size
          have hltG := hG.lt
          have hS := hS.thenExt hx8
          have hE := hE.thenExt hx8
          have hK := hK.ext hx8
          try have hne : ∀ k, v27.ownBlock = some k → k ≠ g11 := fun k hk => by have := hO.lt k hk; omega
          try have hIn := hIn.ext hx8
          try have hO := hO.ext hx8
          try have hIn2 := hIn2.ext hx8
          refine ⟨hS, ?_⟩
          refine RH.take 9 (fun _ _ _ _ h => h) (by kernel_rfl) hS rfl (by kernel_rfl) (by kernel_rfl) (fun wq hq => Y.assign rfl) (by decide) ?_   -- t10 := assign t27
          refine RH.one 10 (by kernel_rfl) ?_
          refine RS.store rfl (g := g11) (pre := []) (old := [.slice none 0 0]) (post := []) (new := [.slice (some ⟨b2, 0, none⟩) l.length l.length]) rfl rfl rfl rfl (by kernel_rfl) (by simpa using hG) rfl (one1 rfl) (fun w9 hc9 hB9_ => ?_)   -- store 58 t11 t30
          have hz9 := hc9.size
          have hG : Blk w9 g11 TSb [.slice (some ⟨b2, 0, none⟩) l.length l.length] := by simpa using hB9_
          have hS := hS.stepO hc9 (fun k h => .inr (by omega))
          have hE := hE.step hc9 (fun k h => by omega)
          have hK := hK.chg hc9 (fun h => by omega) (fun h => by omega) (fun h => by omega) (fun k h => by omega)
          have hIn2 := hIn2.chg hc9 (fun h => by omega)
          have hO := hO.chg hc9 (fun k hk h => hne k hk h)
          refine ⟨hS, ?_⟩
          refine RH.done (by kernel_rfl) ?_
          skip
          exact ⟨(v27, g11, b2, S4), (by repeat (first | exact Fr.le.nil | refine Fr.le.cons rfl ?_)), hK, hG, hIn2, hO, (fun k hk => ⟨hfu k hk, hne k hk, hnb k hk⟩), hB8.chg hS (fun h => by omega), hE, by omega⟩
        · skip
          refine RS.st rfl (St.alloc1 (z := .slice none 0 0) (by kernel_rfl) rfl) (by decide) fun v11 w10 hR10 => ?_   -- alloc 58
          obtain ⟨g11, rfl, hg11, hG, hx10⟩ := hR10
          have hz10 := hx10.size
          have hltG := hG.lt
          have hS := hS.thenExt hx10
          have hE := hE.thenExt hx10
          have hK := hK.ext hx10
          try have hne : ∀ k, v27.ownBlock = some k → k ≠ g11 := fun k hk => by have := hO.lt k hk; omega
          try have hIn := hIn.ext hx10
          try have hO := hO.ext hx10
          try have hIn2 := hIn2.ext hx10
          refine ⟨hS, ?_⟩
          refine RH.one 7 (by kernel_rfl) ?_
          refine RS.call rfl (fun _ _ h => by cases h) Try.func42 rfl rfl rfl (gmarks_any w1 _ gk r sb _ _ l b _ hK (hb0.ext hx1) (fun d hd => hin d (List.mem_append_right _ hd))) (by decide) fun v30 w11 hR11 => ?_   -- call F42(t28, t29) : 55,23
          obtain ⟨b2, rfl, hb2, hIn2, ⟨S4, hK⟩, hc11⟩ := hR11
          have hz11 := hc11.size
          have hS := hS.trans hc11 (fun _ _ h => h)
          have hE := hE.step hc11 (fun k h => by omega)
          have hltB := hIn2.lt
          have hnb : ∀ k, v27.ownBlock = some k → k ≠ b2 := fun k hk => by have := hO.lt k hk; omega
          have hO := hO.chg hc11 (fun k hk h => by have := hfu k hk; omega)
          try have hG := hG.chg hc11 (fun h => by omega)
          refine ⟨hS, ?_⟩
          refine RH.take 9 (fun _ _ _ _ h => h) (by kernel_rfl) hS rfl (by kernel_rfl) (by kernel_rfl) (fun wq hq => Y.assign rfl) (by decide) ?_   -- t10 := assign t27
          refine RH.one 10 (by kernel_rfl) ?_
          refine RS.store rfl (g := g11) (pre := []) (old := [.slice none 0 0]) (post := []) (new := [.slice (some ⟨b2, 0, none⟩) l.length l.length]) rfl rfl rfl rfl (by kernel_rfl) (by simpa using hG) rfl (one1 rfl) (fun w12 hc12 hB12_ => ?_)   -- store 58 t11 t30
          have hz12 := hc12.size
          have hG : Blk w12 g11 TSb [.slice (some ⟨b2, 0, none⟩) l.length l.length] := by simpa using hB12_
          have hS := hS.stepO hc12 (fun k h => .inr (by omega))
          have hE := hE.step hc12 (fun k h => by omega)
          have hK := hK.chg hc12 (fun h => by omega) (fun h => by omega) (fun h => by omega) (fun k h => by omega)
          have hIn2 := hIn2.chg hc12 (fun h => by omega)
          have hO := hO.chg hc12 (fun k hk h => hne k hk h)
          refine ⟨hS, ?_⟩
          refine RH.done (by kernel_rfl) ?_
          skip
          exact ⟨(v27, g11, b2, S4), (by repeat (first | exact Fr.le.nil | refine Fr.le.cons rfl ?_)), hK, hG, hIn2, hO, (fun k hk => ⟨hfu k hk, hne k hk, hnb k hk⟩), hB8.chg hS (fun h => by omega), hE, by omega⟩
      · skip
        refine RS.st rfl (St.alloc1 (z := .slice none 0 0) (by kernel_rfl) rfl) (by decide) fun v11 w13 hR13 => ?_   -- alloc 58
        obtain ⟨g11, rfl, hg11, hG, hx13⟩ := hR13
        have hz13 := hx13.size
        have hltG := hG.lt
        have hS := hS.thenExt hx13
        have hE := hE.thenExt hx13
        have hK := hK.ext hx13
        try have hne : ∀ k, v27.ownBlock = some k → k ≠ g11 := fun k hk => by have := hO.lt k hk; omega
        try have hIn := hIn.ext hx13
        try have hO := hO.ext hx13
        try have hIn2 := hIn2.ext hx13
        refine ⟨hS, ?_⟩
        refine RH.one 4 (by kernel_rfl) ?_
        refine RS.call rfl (fun _ _ h => by cases h) Try.func41 rfl rfl rfl (gorderL_any w1 _ gk r sb ba _ l S3 (markS (ndsL l) a) hK hIn (by rw [markS, setI_length, List.length_replicate, hnl])) (by decide) fun v27 w14 hR14 => ?_   -- call F41(t23, t26) : 55,58
        obtain ⟨hO, hfu, hx14⟩ := hR14
        have hz14 := hx14.size
        have hS := hS.thenExt hx14
        have hE := hE.thenExt hx14
        have hK := hK.ext hx14
        try have hne : ∀ k, v27.ownBlock = some k → k ≠ g11 := fun k hk => by have := hfu k hk; omega
        have hfu : ∀ k, v27.ownBlock = some k → w3.heap.size ≤ k := fun k hk => by have := hfu k hk; omega
        try have hG := hG.ext hx14
        refine ⟨hS, ?_⟩
        refine RH.one 7 (by kernel_rfl) ?_
        refine RS.call rfl (fun _ _ h => by cases h) Try.func42 rfl rfl rfl (gmarks_any w1 _ gk r sb _ _ l b _ hK (hb0.ext hx1) (fun d hd => hin d (List.mem_append_right _ hd))) (by decide) fun v30 w15 hR15 => ?_   -- call F42(t28, t29) : 55,23
        obtain ⟨b2, rfl, hb2, hIn2, ⟨S4, hK⟩, hc15⟩ := hR15
        have hz15 := hc15.size
        have hS := hS.trans hc15 (fun _ _ h => h)
        have hE := hE.step hc15 (fun k h => by omega)
        have hltB := hIn2.lt
        have hnb : ∀ k, v27.ownBlock = some k → k ≠ b2 := fun k hk => by have := hO.lt k hk; omega
        have hO := hO.chg hc15 (fun k hk h => by have := hfu k hk; omega)
        try have hG := hG.chg hc15 (fun h => by omega)
        refine ⟨hS, ?_⟩
        refine RH.take 9 (fun _ _ _ _ h => h) (by kernel_rfl) hS rfl (by kernel_rfl) (by kernel_rfl) (fun wq hq => Y.assign rfl) (by decide) ?_   -- t10 := assign t27
        refine RH.one 10 (by kernel_rfl) ?_
        refine RS.store rfl (g := g11) (pre := []) (old := [.slice none 0 0]) (post := []) (new := [.slice (some ⟨b2, 0, none⟩) l.length l.length]) rfl rfl rfl rfl (by kernel_rfl) (by simpa using hG) rfl (one1 rfl) (fun w16 hc16 hB16_ => ?_)   -- store 58 t11 t30
        have hz16 := hc16.size
        have hG : Blk w16 g11 TSb [.slice (some ⟨b2, 0, none⟩) l.length l.length] := by simpa using hB16_
        have hS := hS.stepO hc16 (fun k h => .inr (by omega))
        have hE := hE.step hc16 (fun k h => by omega)
        have hK := hK.chg hc16 (fun h => by omega) (fun h => by omega) (fun h => by omega) (fun k h => by omega)
        have hIn2 := hIn2.chg hc16 (fun h => by omega)
        have hO := hO.chg hc16 (fun k hk h => hne k hk h)
        refine ⟨hS, ?_⟩
        refine RH.done (by kernel_rfl) ?_
        skip
        exact ⟨(v27, g11, b2, S4), (by repeat (first | exact Fr.le.nil | refine Fr.le.cons rfl ?_)), hK, hG, hIn2, hO, (fun k hk => ⟨hfu k hk, hne k hk, hnb k hk⟩), hB8.chg hS (fun h => by omega), hE, by omega⟩
    · skip
      refine RS.st rfl (St.alloc1 (z := .slice none 0 0) (by kernel_rfl) rfl) (by decide) fun v11 w17 hR17 => ?_   -- alloc 58
      obtain ⟨g11, rfl, hg11, hG, hx17⟩ := hR17
      have hz17 := hx17.size
      have hltG := hG.lt
      have hS := hS.thenExt hx17
      have hE := hE.thenExt hx17
      have hK := hK.ext hx17
      try have hne : ∀ k, v27.ownBlock = some k → k ≠ g11 := fun k hk => by have := hO.lt k hk; omega
      try have hIn := hIn.ext hx17
      try have hO := hO.ext hx17
      try have hIn2 := hIn2.ext hx17
      refine ⟨hS, ?_⟩
      refine RH.one 3 (by kernel_rfl) ?_
      refine RS.call rfl (fun _ _ h => by cases h) Try.func42 rfl rfl rfl (gmarks_any w1 _ gk r sb _ _ l a _ hK (ha0.ext hx1) (fun d hd => hin d (List.mem_append_left _ hd))) (by decide) fun v26 w18 hR18 => ?_   -- call F42(t24, t25) : 55,23
      obtain ⟨ba, rfl, hba, hIn, ⟨S3, hK⟩, hc18⟩ := hR18
      have hz18 := hc18.size
      have hS := hS.trans hc18 (fun _ _ h => h)
      have hE := hE.step hc18 (fun k h => by omega)
      have hltA := hIn.lt
      try have hG := hG.chg hc18 (fun h => by omega)
      refine ⟨hS, ?_⟩
      refine RH.one 4 (by kernel_rfl) ?_
      refine RS.call rfl (fun _ _ h => by cases h) Try.func41 rfl rfl rfl (gorderL_any w1 _ gk r sb ba _ l S3 (markS (ndsL l) a) hK hIn (by rw [markS, setI_length, List.length_replicate, hnl])) (by decide) fun v27 w19 hR19 => ?_   -- call F41(t23, t26) : 55,58
      obtain ⟨hO, hfu, hx19⟩ := hR19
      have hz19 := hx19.size
      have hS := hS.thenExt hx19
      have hE := hE.thenExt hx19
      have hK := hK.ext hx19
      try have hne : ∀ k, v27.ownBlock = some k → k ≠ g11 := fun k hk => by have := hfu k hk; omega
      have hfu : ∀ k, v27.ownBlock = some k → w3.heap.size ≤ k := fun k hk => by have := hfu k hk; omega
      try have hG := hG.ext hx19
      refine ⟨hS, ?_⟩
      refine RH.one 7 (by kernel_rfl) ?_
      refine RS.call rfl (fun _ _ h => by cases h) Try.func42 rfl rfl rfl (gmarks_any w1 _ gk r sb _ _ l b _ hK (hb0.ext hx1) (fun d hd => hin d (List.mem_append_right _ hd))) (by decide) fun v30 w20 hR20 => ?_   -- call F42(t28, t29) : 55,23
      obtain ⟨b2, rfl, hb2, hIn2, ⟨S4, hK⟩, hc20⟩ := hR20
      have hz20 := hc20.size
      have hS := hS.trans hc20 (fun _ _ h => h)
      have hE := hE.step hc20 (fun k h => by omega)
      have hltB := hIn2.lt
      have hnb : ∀ k, v27.ownBlock = some k → k ≠ b2 := fun k hk => by have := hO.lt k hk; omega
      have hO := hO.chg hc20 (fun k hk h => by have := hfu k hk; omega)
      try have hG := hG.chg hc20 (fun h => by omega)
      refine ⟨hS, ?_⟩
      refine RH.take 9 (fun _ _ _ _ h => h) (by kernel_rfl) hS rfl (by kernel_rfl) (by kernel_rfl) (fun wq hq => Y.assign rfl) (by decide) ?_   -- t10 := assign t27
      refine RH.one 10 (by kernel_rfl) ?_
      refine RS.store rfl (g := g11) (pre := []) (old := [.slice none 0 0]) (post := []) (new := [.slice (some ⟨b2, 0, none⟩) l.length l.length]) rfl rfl rfl rfl (by kernel_rfl) (by simpa using hG) rfl (one1 rfl) (fun w21 hc21 hB21_ => ?_)   -- store 58 t11 t30
      have hz21 := hc21.size
      have hG : Blk w21 g11 TSb [.slice (some ⟨b2, 0, none⟩) l.length l.length] := by simpa using hB21_
      have hS := hS.stepO hc21 (fun k h => .inr (by omega))
      have hE := hE.step hc21 (fun k h => by omega)
      have hK := hK.chg hc21 (fun h => by omega) (fun h => by omega) (fun h => by omega) (fun k h => by omega)
      have hIn2 := hIn2.chg hc21 (fun h => by omega)
      have hO := hO.chg hc21 (fun k hk h => hne k hk h)
      refine ⟨hS, ?_⟩
      refine RH.done (by kernel_rfl) ?_
      skip
      exact ⟨(v27, g11, b2, S4), (by repeat (first | exact Fr.le.nil | refine Fr.le.cons rfl ?_)), hK, hG, hIn2, hO, (fun k hk => ⟨hfu k hk, hne k hk, hnb k hk⟩), hB8.chg hS (fun h => by omega), hE, by omega⟩
  rintro u w22 hj22
  clear hE hK
  obtain ⟨v27, g11, b2, S4⟩ := u
  dsimp only at hj22 ⊢
  obtain ⟨hK, hG, hIn2, hO, hfu, hB8, hE, hz22⟩ := hj22
  obtain ⟨B, mb, cb, rfl⟩ := hO.lens
  refine CW.seq fun K7 hK7 => ?_
  refine CW.region ?_   -- region 5
  refine WL.val (Y.move rfl) (by decide) ?_   -- t31 := move t10
  refine WL.val (Y.makeFunc rfl) (by decide) ?_   -- t32 := makeFunc ['Go.Fn.func', '44'] [] [t11, t8]
  refine WL.call Try.func43 rfl rfl rfl (deleteFunc_any (bitAt (markS (ndsL l) b) (ndsL l)) [.pointer (some ⟨g11, 0, none⟩), .pointer (some ⟨g8, 0, none⟩)] B mb cb _ _ Try.func44 rfl rfl (fun d w1 hd hc => glacks1_any _ w1 gk r sb b2 g11 g8 _ l S4 (markS (ndsL l) b) d (hK.chg hc (fun h => by have := hfu _ h; omega) (fun h => by have := hfu _ h; omega) (fun h => by have := hfu _ h; omega) (fun k h => by have := hfu k h; omega)) (hIn2.chg hc (fun h => by have := hfu _ h; omega)) (by rw [markS, setI_length, List.length_replicate, hnl]) (hG.chg hc (fun h => by have := hfu _ h; omega)) (hB8.chg hc (fun h => by have := hfu _ h; omega)) (orderL_ids hd)) hO) (by simp) ?_; rintro v33 w23 hR23   -- t33 := call F43(t31, t32) : 23,71
  obtain ⟨i, rfl, hO2, hc23⟩ := hR23
  have hz23 := hc23.size
  have hE := hE.step hc23 (fun k h => by have := hfu k h; omega)
  refine WL.val (Y.assign rfl) (by decide) ?_   -- t6 := assign t33
  refine WL.val (Y.assign rfl) (by decide) ?_   -- t7 := assign c(0:i64)
  refine WL.nil ?_
  refine hK7 _ _ ?_; try clear hK7 K7
  refine CW.ret ⟨_, rfl, ?_⟩
  exact ⟨_, by rw [hq0], by rw [if_pos hq0]; exact hO2, (fun k hk => by have := hfu k (by cases B <;> simpa [Value.ownBlock] using hk); omega), hE⟩
end Go.Proofs.Ytecolkngbcgmcaa
