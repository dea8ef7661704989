/- graph.Above, Common, Within, walked. No condition. -/
import Derived.Test.YtecolkngbcgmcaaGj
set_option linter.unusedSimpArgs false
set_option linter.unusedVariables false
namespace Go.Proofs.Ytecolkngbcgmcaa
open Go.RowKit Go.Fw Go.Pl Go.Sort

set_option maxHeartbeats 1000000 in
theorem gWithin_any (u va vb : Value) (l : List NdV) (a b : List Dig) (w : World) (hl : Nds w u l) (ha : Sl w digC 32 va a) (hb : Sl w digC 32 vb b) : Calls Try.prog 29 #[u, va, vb] w (Ret fun v w' => v = .tuple #[.bool (if wrongQ (ndsL l) (a ++ b) = 0 then a.all (bitAt (markS (ndsL l) b) (ndsL l)) else false), .int .i64 (wrongQ (ndsL l) (a ++ b))] ∧ Ext w w') := by
  have hl0 := hl
  obtain ⟨A, c, rfl, hmc, hcm⟩ := hl.sl.lens
  unfold maxLen at hcm
  have ha0 := ha
  have hb0 := hb
  obtain ⟨A1, m1, c1, rfl, ham, hac, hax, hag⟩ := ha
  obtain ⟨A2, m2, c2, rfl, hbm, hbc, hbx, hbg⟩ := hb
  unfold maxLen at hax hbx
  have hnl : (ndsL l).length = l.length := by simp
  refine calls_of_CW 29 [6, 7] [(0, .slice A l.length c), (1, .slice A1 m1 c1), (2, .slice A2 m2 c2)] Try.func29 rfl rfl rfl (by simp) args3 ?_
  have hE : Ext w w := Chg.refl
  refine CW.seq fun K1 hK1 => ?_
  refine CW.region ?_   -- region 0
  refine WL.val (Y.assign rfl) (by decide) ?_   -- t6 := assign c(false)
  refine WL.val (Y.assign rfl) (by decide) ?_   -- t7 := assign c(0:i64)
  refine WL.nil ?_
  refine hK1 _ _ ?_; try clear hK1 K1
  refine CW.seq fun K2 hK2 => ?_
  refine CW.region ?_   -- region 1
  refine WL.val (Y.move rfl) (by decide) ?_   -- t12 := move t0
  refine WL.val (Y.move rfl) (by decide) ?_   -- t13 := move t1
  refine WL.val (Y.move rfl) (by decide) ?_   -- t14 := move t2
  refine WL.st (St.buildSlice rfl (bs2_sd _ _ _ _ _ _)) (by decide) fun v15 w1 hR1 => ?_   -- t15 := buildSlice 78 2 [(0,t13), (1,t14)]
  obtain ⟨g15, rfl, hg15, hB15, hx1⟩ := hR1
  have hz1 := hx1.size
  have hE := hE.thenExt hx1
  refine WL.call Try.func35 rfl rfl rfl (gbegin_any _ _ l [(.slice A1 m1 c1, a), (.slice A2 m2 c2, b)] _ (hl0.ext hx1) (Blk.slV (ds := [(.slice A1 m1 c1, a), (.slice A2 m2 c2, b)]) hB15 (by simp [maxLen])) (fun x hx => by simp at hx; rcases hx with rfl | rfl; exact ha0.ext hx1; exact hb0.ext hx1)) (by simp) ?_; rintro v16 w2 hR2   -- t16 := call F35(t12, t15) : 22,78
  obtain ⟨p, rfl, hx2, hp⟩ := hR2
  have hz2 := hx2.size
  have hE := hE.thenExt hx2
  have hfl : (List.map Prod.snd ([(.slice A1 m1 c1, a), (.slice A2 m2 c2, b)] : List (Value × List Dig))).flatten = a ++ b := by simp
  simp only [hfl] at hp ⊢
  refine WL.val (Y.move rfl) (by decide) ?_   -- t11 := move t16
  refine WL.val (Y.extract rfl rfl) (by decide) ?_   -- t17 := extract t11 0
  refine WL.val (Y.extract rfl rfl) (by decide) ?_   -- t18 := extract t11 1
  refine WL.allocStore1 (by kernel_rfl) rfl (by simp) rfl rfl (by decide) fun g8 w3 hx3 hg8 hB8 => ?_   -- alloc 55; store 55 t8 t17
  have hlt8 := hB8.lt; have hz3 := hx3.size
  have hM8 := hB8.mem; have hz3 := hx3.size; have hE := hE.thenExt hx3
  refine WL.val (Y.assign rfl) (by decide) ?_   -- t9 := assign t18
  refine WL.nil ?_
  refine hK2 _ _ ?_; try clear hK2 K2
  refine CW.seq fun K3 hK3 => ?_
  refine CW.seq fun K4 hK4 => ?_
  refine CW.region ?_   -- region 2
  refine WL.val (Y.move rfl) (by decide) ?_   -- t19 := move t9
  refine WL.val (Y.neq rfl rfl) (by decide) ?_   -- t20 := binOp neq 24 t19 c(0:i64) 24
  refine WL.nil ?_
  refine hK4 _ _ ?_; try clear hK4 K4
  first | refine CW.condD rfl (fun ht5 => ?_) (fun ht5 => ?_) | refine CW.condND rfl (fun ht5 => ?_) (fun ht5 => ?_) | refine CW.condN rfl (fun ht5 => ?_) (fun ht5 => ?_) | refine CW.cond rfl (fun ht5 => ?_) (fun ht5 => ?_)
  · -- then
    refine CW.seq fun K6 hK6 => ?_
    refine CW.region ?_   -- region 3
    refine WL.val (Y.move rfl) (by decide) ?_   -- t21 := move t9
    refine WL.val (Y.assign rfl) (by decide) ?_   -- t6 := assign c(false)
    refine WL.val (Y.assign rfl) (by decide) ?_   -- t7 := assign t21
    refine WL.nil ?_
    refine hK6 _ _ ?_; try clear hK6 K6
    refine CW.ret ⟨_, rfl, ?_⟩
    have he : ¬ wrongQ (ndsL l) (a ++ b) = 0 := by assumption
    exact ⟨by rw [if_neg he]; rfl, hE⟩
  -- else
  refine CW.skip ?_
  refine hK3 _ _ ?_; try clear hK3 K3
  refine CW.seq fun K7 hK7 => ?_
  have hq0 : wrongQ (ndsL l) (a ++ b) = 0 := Decidable.not_not.1 (by assumption)
  obtain ⟨gk, r, sb, rfl, hK⟩ := hp hq0
  have hin := wrongQ_in hq0
  have hln := ok_len hK.ok
  have hltK := hK.lt
  have hnew := hK.new
  have hK := hK.ext hx3
  refine CW.region ?_   -- region 4
  refine WL.val (Y.load1 Try.underlying55 rfl hB8.mem.cell0 rfl) (by decide) ?_   -- t22 := load 55 t8
  refine WL.val (Y.move rfl) (by decide) ?_   -- t23 := move t2
  refine WL.call Try.func42 rfl rfl rfl (gmarks_any w1 _ gk r sb _ _ l b _ hK (hb0.ext hx1) (fun d hd => hin d (List.mem_append_right _ hd))) (by simp) ?_; rintro v24 w4 hR4   -- t24 := call F42(t22, t23) : 55,23
  obtain ⟨bb, rfl, hbb2, hIn, ⟨S4, hK⟩, hc4⟩ := hR4
  have hz4 := hc4.size
  have hE := hE.step hc4 (fun k h => by omega)
  have hB8 := hB8.chg hc4 (fun h => by omega)
  refine WL.allocStore1 (by kernel_rfl) rfl (by simp) rfl rfl (by decide) fun g10 w5 hx5 hg10 hB10 => ?_   -- alloc 58; store 58 t10 t24
  have hlt10 := hB10.lt; have hz5 := hx5.size
  have hM10 := hB10.mem; have hz5 := hx5.size; have hE := hE.thenExt hx5; have hB8 := hB8.ext hx5
  refine WL.nil ?_
  refine hK7 _ _ ?_; try clear hK7 K7
  refine CW.seq fun K8 hK8 => ?_
  refine CW.region ?_   -- region 5
  refine WL.val (Y.move rfl) (by decide) ?_   -- t25 := move t1
  refine WL.val (Y.makeFunc rfl) (by decide) ?_   -- t26 := makeFunc ['Go.Fn.func', '47'] [] [t10, t8]
  refine WL.call Try.func46 rfl rfl rfl (containsFunc_any (fun d => !(bitAt (markS (ndsL l) b) (ndsL l) d)) [.pointer (some ⟨g10, 0, none⟩), .pointer (some ⟨g8, 0, none⟩)] _ a _ Try.func47 rfl rfl (fun d wn hd hxn => gwithin1_any w1 wn gk r sb bb g10 g8 _ l S4 (markS (ndsL l) b) d ((hK.ext hx5).ext hxn) ((hIn.ext hx5).ext hxn) (by rw [markS, setI_length, List.length_replicate, hnl]) (hB10.ext hxn) (hB8.ext hxn) (hin d (List.mem_append_left _ hd))) (ha0.ext hE)) (by simp) ?_; rintro v w6 ⟨rfl, hx6⟩; have hz6 := hx6.size; have hE := hE.thenExt hx6; have hB8 := hB8.ext hx6; have hB10 := hB10.ext hx6   -- t27 := call F46(t25, t26) : 23,71
  refine WL.val (Y.not rfl) (by decide) ?_   -- t28 := unOp not 4 t27
  refine WL.val (Y.assign rfl) (by decide) ?_   -- t6 := assign t28
  refine WL.val (Y.assign rfl) (by decide) ?_   -- t7 := assign c(0:i64)
  refine WL.nil ?_
  refine hK8 _ _ ?_; try clear hK8 K8
  refine CW.ret ⟨_, rfl, ?_⟩
  exact ⟨by rw [hq0, if_pos rfl, List.all_eq_not_any_not], hE⟩
end Go.Proofs.Ytecolkngbcgmcaa
