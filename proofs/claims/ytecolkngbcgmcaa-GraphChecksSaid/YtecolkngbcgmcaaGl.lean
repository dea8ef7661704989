/- graph.Common, walked. No condition. -/
import Derived.Test.YtecolkngbcgmcaaGk
set_option linter.unusedSimpArgs false
set_option linter.unusedVariables false
namespace Go.Pl
def andB (S T : List Bool) : List Bool := List.zipWith (fun p q => p && q) S T
/-- So far. -/
def andT (S T : List Bool) (x : Nat) : List Bool := (andB S T).take x ++ S.drop x
theorem andT_zero (S T : List Bool) : andT S T 0 = S := by simp [andT]
theorem andT_length {S T : List Bool} {x : Nat} (h : T.length = S.length) (hx : x ≤ S.length) : (andT S T x).length = S.length := by
  simp [andT, andB, List.length_zipWith, h]; omega
theorem andT_full {S T : List Bool} (h : T.length = S.length) : andT S T S.length = andB S T := by
  rw [andT, List.take_of_length_le (by simp [andB, List.length_zipWith]; omega), List.drop_length, List.append_nil]
theorem andT_at {S T : List Bool} {x : Nat} {s : Bool} (h : T.length = S.length) (hs : S[x]? = some s) : (andT S T x)[x]? = some s := by
  have hx := (List.getElem?_eq_some_iff.1 hs).1
  have hl : ((andB S T).take x).length = x := by simp [andB, List.length_zipWith, h]; omega
  rw [andT, List.getElem?_append_right (by omega), hl, Nat.sub_self, List.getElem?_drop, Nat.add_zero, hs]
theorem andT_set {S T : List Bool} {x : Nat} {s t : Bool} (h : T.length = S.length) (hs : S[x]? = some s) (ht : T[x]? = some t) : (andT S T x).set x (s && t) = andT S T (x + 1) := by
  obtain ⟨hx, hsx⟩ := List.getElem?_eq_some_iff.1 hs
  have hl : ((andB S T).take x).length = x := by simp [andB, List.length_zipWith, h]; omega
  have hb : (andB S T)[x]? = some (s && t) := by simp [andB, List.getElem?_zipWith, hs, ht]
  rw [andT, List.set_append_right _ _ (by omega), hl, Nat.sub_self, List.drop_eq_getElem_cons hx, List.set_cons_zero, andT, take_succ hb]
  simp
end Go.Pl
namespace Go.Proofs.Ytecolkngbcgmcaa
open Go.RowKit Go.Fw Go.Pl Go.Sort

set_option maxHeartbeats 1000000 in
theorem gCommon_any (u va vb : Value) (l : List NdV) (a b : List Dig) (w : World) (hl : Nds w u l) (ha : Sl w digC 32 va a) (hb : Sl w digC 32 vb b) : Calls Try.prog 28 #[u, va, vb] w (Ret fun v w' => ∃ hv, v = .tuple #[hv, .int .i64 (wrongQ (ndsL l) (a ++ b))] ∧ Own w' TDg 32 hv (flatD (if wrongQ (ndsL l) (a ++ b) = 0 then headsL (ndsL l) (andB (markS (ndsL l) a) (markS (ndsL l) b)) else [])) ∧ (∀ k, hv.ownBlock = some k → w.heap.size ≤ k) ∧ Ext w w') := by
  have hl0 := hl
  obtain ⟨A, c, rfl, hmc, hcm⟩ := hl.sl.lens
  unfold maxLen at hcm
  have ha0 := ha
  have hb0 := hb
  obtain ⟨A1, m1, c1, rfl, ham, hac, hax, hag⟩ := ha
  obtain ⟨A2, m2, c2, rfl, hbm, hbc, hbx, hbg⟩ := hb
  unfold maxLen at hax hbx
  have hnl : (ndsL l).length = l.length := by simp
  refine calls_of_CW 52 [6, 7] [(0, .slice A l.length c), (1, .slice A1 m1 c1), (2, .slice A2 m2 c2)] Try.func28 rfl rfl rfl (by simp) args3 ?_
  have hE : Ext w w := Chg.refl
  refine CW.seq fun K1 hK1 => ?_
  refine CW.region ?_   -- region 0
  refine WL.val (Y.assign rfl) (by decide) ?_   -- t6 := assign c(nilslice)
  refine WL.val (Y.assign rfl) (by decide) ?_   -- t7 := assign c(0:i64)
  refine WL.nil ?_
  refine hK1 _ _ ?_; try clear hK1 K1
  refine CW.seq fun K2 hK2 => ?_
  refine CW.region ?_   -- region 1
  refine WL.val (Y.move rfl) (by decide) ?_   -- t14 := move t0
  refine WL.val (Y.move rfl) (by decide) ?_   -- t15 := move t1
  refine WL.val (Y.move rfl) (by decide) ?_   -- t16 := move t2
  refine WL.st (St.buildSlice rfl (bs2_sd _ _ _ _ _ _)) (by decide) fun v17 w1 hR1 => ?_   -- t17 := buildSlice 78 2 [(0,t15), (1,t16)]
  obtain ⟨g15, rfl, hg15, hB15, hx1⟩ := hR1
  have hz1 := hx1.size
  have hE := hE.thenExt hx1
  refine WL.call Try.func35 rfl rfl rfl (gbegin_any _ _ l [(.slice A1 m1 c1, a), (.slice A2 m2 c2, b)] _ (hl0.ext hx1) (Blk.slV (ds := [(.slice A1 m1 c1, a), (.slice A2 m2 c2, b)]) hB15 (by simp [maxLen])) (fun x hx => by simp at hx; rcases hx with rfl | rfl; exact ha0.ext hx1; exact hb0.ext hx1)) (by simp) ?_; rintro v18 w2 hR2   -- t18 := call F35(t14, t17) : 22,78
  obtain ⟨p, rfl, hx2, hp⟩ := hR2
  have hz2 := hx2.size
  have hE := hE.thenExt hx2
  have hfl : (List.map Prod.snd ([(.slice A1 m1 c1, a), (.slice A2 m2 c2, b)] : List (Value × List Dig))).flatten = a ++ b := by simp
  simp only [hfl] at hp ⊢
  refine WL.val (Y.move rfl) (by decide) ?_   -- t13 := move t18
  refine WL.val (Y.extract rfl rfl) (by decide) ?_   -- t19 := extract t13 0
  refine WL.val (Y.extract rfl rfl) (by decide) ?_   -- t20 := extract t13 1
  refine WL.val (Y.assign rfl) (by decide) ?_   -- t8 := assign t19
  refine WL.val (Y.assign rfl) (by decide) ?_   -- t9 := assign t20
  refine WL.nil ?_
  refine hK2 _ _ ?_; try clear hK2 K2
  refine CW.seq fun K3 hK3 => ?_
  refine CW.seq fun K4 hK4 => ?_
  refine CW.region ?_   -- region 2
  refine WL.val (Y.move rfl) (by decide) ?_   -- t21 := move t9
  refine WL.val (Y.neq rfl rfl) (by decide) ?_   -- t22 := binOp neq 24 t21 c(0:i64) 24
  refine WL.nil ?_
  refine hK4 _ _ ?_; try clear hK4 K4
  first | refine CW.condD rfl (fun ht5 => ?_) (fun ht5 => ?_) | refine CW.condND rfl (fun ht5 => ?_) (fun ht5 => ?_) | refine CW.condN rfl (fun ht5 => ?_) (fun ht5 => ?_) | refine CW.cond rfl (fun ht5 => ?_) (fun ht5 => ?_)
  · -- then
    refine CW.seq fun K6 hK6 => ?_
    refine CW.region ?_   -- region 3
    refine WL.val (Y.move rfl) (by decide) ?_   -- t23 := move t9
    refine WL.val (Y.assign rfl) (by decide) ?_   -- t6 := assign c(nilslice)
    refine WL.val (Y.assign rfl) (by decide) ?_   -- t7 := assign t23
    refine WL.nil ?_
    refine hK6 _ _ ?_; try clear hK6 K6
    refine CW.ret ⟨_, rfl, ?_⟩
    have he : ¬ wrongQ (ndsL l) (a ++ b) = 0 := by assumption
    exact ⟨_, rfl, by rw [if_neg he]; exact Own.nil, (fun k h => by simp [Value.ownBlock] at h), hE⟩
  -- else
  refine CW.skip ?_
  refine hK3 _ _ ?_; try clear hK3 K3
  refine CW.seq fun K7 hK7 => ?_
  have hq0 : wrongQ (ndsL l) (a ++ b) = 0 := Decidable.not_not.1 (by assumption)
  obtain ⟨gk, r, sb, rfl, hK⟩ := hp hq0
  have hin := wrongQ_in hq0
  have hln := ok_len hK.ok
  have hltK := hK.lt
  have hnew := hK.new
  refine CW.region ?_   -- region 4
  refine WL.val (Y.move rfl) (by decide) ?_   -- t24 := move t8
  refine WL.val (Y.move rfl) (by decide) ?_   -- t25 := move t1
  refine WL.call Try.func42 rfl rfl rfl (gmarks_any w1 _ gk r sb _ _ l a _ hK (ha0.ext hx1) (fun d hd => hin d (List.mem_append_left _ hd))) (by simp) ?_; rintro v26 w3 hR3   -- t26 := call F42(t24, t25) : 55,23
  obtain ⟨ba, rfl, hba, hIn, ⟨S3, hK⟩, hc3⟩ := hR3
  have hz3 := hc3.size
  have hE := hE.step hc3 (fun k h => by omega)
  have hltA := hIn.lt
  refine WL.val (Y.move rfl) (by decide) ?_   -- t27 := move t8
  refine WL.val (Y.move rfl) (by decide) ?_   -- t28 := move t2
  refine WL.call Try.func42 rfl rfl rfl (gmarks_any w1 _ gk r sb _ _ l b _ hK (hb0.ext hx1) (fun d hd => hin d (List.mem_append_right _ hd))) (by simp) ?_; rintro v29 w4 hR4   -- t29 := call F42(t27, t28) : 55,23
  obtain ⟨bb, rfl, hbb, hTo, ⟨S4, hK⟩, hc4⟩ := hR4
  have hz4 := hc4.size
  have hE := hE.step hc4 (fun k h => by omega)
  have hltB := hTo.lt
  have hIn := hIn.chg hc4 (fun h => by omega)
  obtain ⟨SA, hSA⟩ : ∃ S, S = markS (ndsL l) a := ⟨_, rfl⟩
  obtain ⟨TB, hTB⟩ : ∃ S, S = markS (ndsL l) b := ⟨_, rfl⟩
  have hSl : SA.length = l.length := by rw [hSA, markS, setI_length, List.length_replicate, hnl]
  have hTl : TB.length = l.length := by rw [hTB, markS, setI_length, List.length_replicate, hnl]
  rw [← hSA] at hIn ⊢
  rw [← hTB] at hTo ⊢
  refine WL.val (Y.assign rfl) (by decide) ?_   -- t10 := assign t26
  refine WL.val (Y.assign rfl) (by decide) ?_   -- t11 := assign t29
  refine WL.nil ?_
  refine hK7 _ _ ?_; try clear hK7 K7
  refine CW.seq fun K8 hK8 => ?_
  refine CW.seq fun K9 hK9 => ?_
  refine CW.region ?_   -- region 5
  refine WL.val (Y.move rfl) (by decide) ?_   -- t30 := move t10
  refine WL.val (Y.len_slice Try.underlying58 rfl) (by decide) ?_   -- t31 := call len(t30) : 58
  refine WL.val (Y.move rfl) (by decide) ?_   -- t32 := move c(0:i64)
  refine WL.nil ?_
  refine hK9 _ _ ?_; try clear hK9 K9
  refine CW.block ?_   -- block 0
  refine CW.loop (X := Nat) (fun x => [(8, .pointer (some ⟨gk, 0, none⟩)), (10, .slice (some ⟨ba, 0, none⟩) l.length l.length), (11, .slice (some ⟨bb, 0, none⟩) l.length l.length), (31, .int .i64 (l.length : Int)), (32, .int .i64 (x : Int))]) (fun x w0 => x ≤ l.length ∧ Blk w0 ba TBo (boolC (andT SA TB x)) ∧ Blk w0 bb TBo (boolC TB) ∧ Ext w w0 ∧ LookAt w1 w0 gk r sb (.slice A l.length c) l S4) (fun x => l.length - x) 0 (by repeat (first | exact Fr.le.nil | refine Fr.le.cons rfl ?_)) ⟨Nat.zero_le _, by rw [andT_zero]; exact hIn, hTo, hE, hK⟩ ?_
  intro x w5 hl5
  clear hE hK hIn hTo
  obtain ⟨hxm, hIn, hTo, hE, hK⟩ := hl5
  refine CW.seq fun K10 hK10 => ?_
  refine CW.region ?_   -- region 6
  refine WL.val (Y.lss rfl rfl) (by decide) ?_   -- t33 := binOp lss 3 t32 t31 3
  refine WL.nil ?_
  refine hK10 _ _ ?_; try clear hK10 K10
  refine CW.seq fun K11 hK11 => ?_
  first | refine CW.condD rfl (fun ht12 => ?_) (fun ht12 => ?_) | refine CW.condND rfl (fun ht12 => ?_) (fun ht12 => ?_) | refine CW.condN rfl (fun ht12 => ?_) (fun ht12 => ?_) | refine CW.cond rfl (fun ht12 => ?_) (fun ht12 => ?_)
  · -- then
    refine CW.skip ?_
    refine hK11 _ _ ?_; try clear hK11 K11
    refine CW.seq fun K13 hK13 => ?_
    refine CW.block ?_   -- block 1
    refine CW.seq fun K14 hK14 => ?_
    obtain ⟨s, hs⟩ : ∃ s, SA[x]? = some s := ⟨_, List.getElem?_eq_getElem (by omega)⟩
    obtain ⟨t, ht⟩ : ∃ t, TB[x]? = some t := ⟨_, List.getElem?_eq_getElem (by omega)⟩
    have hsi := andT_at (T := TB) (by omega) hs
    have hse := andT_set (by omega) hs ht
    refine CW.region ?_   -- region 7
    refine WL.val (Y.move rfl) (by decide) ?_   -- t34 := move t32
    refine WL.val (Y.assign rfl) (by decide) ?_   -- t12 := assign t34
    refine WL.nil ?_
    refine hK14 _ _ ?_; try clear hK14 K14
    refine CW.region ?_   -- region 8
    refine WL.val (Y.move rfl) (by decide) ?_   -- t35 := move t10
    refine WL.val (Y.move rfl) (by decide) ?_   -- t36 := move t12
    refine WL.val (Y.move rfl) (by decide) ?_   -- t37 := move t10
    refine WL.val (Y.move rfl) (by decide) ?_   -- t38 := move t12
    refine WL.val (Y.indexAddrN Try.underlying58 rfl rfl sz0_bool (by omega)) (by decide) ?_   -- t39 := indexAddr 58 t37 t38
    refine WL.val (Y.load1 Try.underlying4 rfl (hIn.bcell hsi) rfl) (by decide) ?_   -- t40 := load 4 t39
    refine WL.val (Y.move rfl) (by decide) ?_   -- t41 := move t40
    first | refine WL.casesD (d := 41) rfl (fun hg41 => ?_) (fun hg41 => ?_) | refine WL.casesND (d := 41) rfl (fun hg41 => ?_) (fun hg41 => ?_) | refine WL.cases (d := 41) rfl (fun hg41 => ?_) (fun hg41 => ?_)
    · -- t41 = T
      refine WL.gval rfl rfl (Y.move rfl) (by decide) ?_   -- t42 := move t11 [if 6=true]
      refine WL.gval rfl rfl (Y.move rfl) (by decide) ?_   -- t43 := move t12 [if 6=true]
      refine WL.gval rfl rfl (Y.indexAddrN Try.underlying58 rfl rfl sz0_bool (by omega)) (by decide) ?_   -- t44 := indexAddr 58 t42 t43 [if 6=true]
      refine WL.gval rfl rfl (Y.load1 Try.underlying4 rfl (hTo.bcell ht) rfl) (by decide) ?_   -- t45 := load 4 t44 [if 6=true]
      refine WL.val (Y.pick rfl rfl) (by decide) ?_   -- t46 := pick t41 t45 c(false)
      refine WL.val (Y.indexAddrN Try.underlying58 rfl rfl sz0_bool (by omega)) (by decide) ?_   -- t47 := indexAddr 58 t35 t36
      refine WL.storeB rfl rfl rfl sz_bool hIn hsi (fun w6 hc6 hB6_ => ?_)   -- _ := store 4 t47 t46
      have hz6 := hc6.size; have hE := hE.step hc6 (fun k h => by omega)
      have hTo := hTo.chg hc6 (fun h => by omega)
      have hK := hK.chg hc6 (fun h => by omega) (fun h => by omega) (fun h => by omega) (fun k h => by omega)
      refine WL.nil ?_
      refine hK13 _ _ ?_; try clear hK13 K13
      refine CW.region ?_   -- region 9
      refine WL.val (Y.add rfl rfl ⟨by omega, by omega⟩) (by decide) ?_   -- t48 := binOp add 3 t32 c(1:i64) 3
      refine WL.val (Y.move rfl) (by decide) ?_   -- t32 := move t48
      refine WL.nil ?_
      refine ⟨x + 1, by show l.length - (x + 1) < l.length - x; omega, (by repeat (first | exact Fr.le.nil | refine Fr.le.cons rfl ?_)), by show x + 1 ≤ l.length; omega, ?_, hTo, hE, hK⟩
      rw [← hse]
      simp_all
    · -- t41 = F
      refine WL.goff rfl rfl (by decide) ?_   -- t42 := move t11 [if 6=true]
      refine WL.goff rfl rfl (by decide) ?_   -- t43 := move t12 [if 6=true]
      refine WL.goff rfl rfl (by decide) ?_   -- t44 := indexAddr 58 t42 t43 [if 6=true]
      refine WL.goff rfl rfl (by decide) ?_   -- t45 := load 4 t44 [if 6=true]
      refine WL.val (Y.pick rfl rfl) (by decide) ?_   -- t46 := pick t41 t45 c(false)
      refine WL.val (Y.indexAddrN Try.underlying58 rfl rfl sz0_bool (by omega)) (by decide) ?_   -- t47 := indexAddr 58 t35 t36
      refine WL.storeB rfl rfl rfl sz_bool hIn hsi (fun w7 hc7 hB7_ => ?_)   -- _ := store 4 t47 t46
      have hz7 := hc7.size; have hE := hE.step hc7 (fun k h => by omega)
      have hTo := hTo.chg hc7 (fun h => by omega)
      have hK := hK.chg hc7 (fun h => by omega) (fun h => by omega) (fun h => by omega) (fun k h => by omega)
      refine WL.nil ?_
      refine hK13 _ _ ?_; try clear hK13 K13
      refine CW.region ?_   -- region 9
      refine WL.val (Y.add rfl rfl ⟨by omega, by omega⟩) (by decide) ?_   -- t48 := binOp add 3 t32 c(1:i64) 3
      refine WL.val (Y.move rfl) (by decide) ?_   -- t32 := move t48
      refine WL.nil ?_
      refine ⟨x + 1, by show l.length - (x + 1) < l.length - x; omega, (by repeat (first | exact Fr.le.nil | refine Fr.le.cons rfl ?_)), by show x + 1 ≤ l.length; omega, ?_, hTo, hE, hK⟩
      rw [← hse]
      simp_all
  -- else
  refine CW.exit ?_   -- exit 0
  refine hK8 _ _ ?_; try clear hK8 K8
  refine CW.seq fun K15 hK15 => ?_
  refine CW.region ?_   -- region 10
  refine WL.val (Y.move rfl) (by decide) ?_   -- t49 := move t8
  refine WL.val (Y.move rfl) (by decide) ?_   -- t50 := move t10
  refine WL.call Try.func36 rfl rfl rfl (gheads_any w1 _ gk r sb ba _ l _ (andB SA TB) hK (by rw [← andT_full (by omega), hSl, show l.length = x by omega]; exact hIn) (by rw [andB, List.length_zipWith]; omega)) (by simp) ?_; rintro v51 w8 hR8   -- t51 := call F36(t49, t50) : 55,58
  obtain ⟨hO, hfu, hx8⟩ := hR8
  have hz8 := hx8.size
  have hzE2 := hE.size
  have hE := hE.thenExt hx8
  refine WL.val (Y.assign rfl) (by decide) ?_   -- t6 := assign t51
  refine WL.val (Y.assign rfl) (by decide) ?_   -- t7 := assign c(0:i64)
  refine WL.nil ?_
  refine hK15 _ _ ?_; try clear hK15 K15
  refine CW.ret ⟨_, rfl, ?_⟩
  exact ⟨_, by rw [hq0], by rw [if_pos hq0, ← hSA, ← hTB]; exact hO, fun k hk => by have := hfu k hk; omega, hE⟩
end Go.Proofs.Ytecolkngbcgmcaa
