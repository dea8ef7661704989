/- EditMakes, walked. No condition. -/
import Derived.Test.YtmndofgagngcgaaJn
import Derived.Test.YtmndofgagngcgaaJk
set_option linter.unusedSimpArgs false
set_option linter.unusedVariables false
namespace Go.Proofs.Ytmndofgagngcgaa
open Go.RowKit Go.Fw Go.Fu Go.Pl

set_option maxHeartbeats 1000000 in
theorem makes_any (u : Value) (l : List CmV) (b : List UInt8) (w : World) (hl : Cms w u l) (hb : b.length < 4611686018427387904) : Calls Try.prog 3 #[u, .string (bs b)] w (Ret fun v w' => v = .bool true ∧ Ext w w') := by
  obtain ⟨A, m, c, rfl, hm, hmc, hcm, _⟩ := _root_.id hl.sl
  unfold maxLen at hcm
  refine calls_of_CW 50 [4] [(0, .slice A m c), (1, .string (bs b))] Try.func3 rfl rfl rfl (by simp) args2 ?_
  have hE : Ext w w := Chg.refl
  refine CW.seq fun K1 hK1 => ?_
  refine CW.region ?_
  refine WL.val (Y.assign rfl) (by decide) ?_
  refine WL.nil ?_
  refine hK1 _ _ ?_; try clear hK1 K1
  refine CW.seq fun K2 hK2 => ?_
  refine CW.region ?_
  refine WL.val (Y.move rfl) (by decide) ?_
  refine WL.call Try.func10 rfl rfl rfl (grown_any _ l _ (hl.ext hE)) (by simp) ?_; rintro v14 w1 hR1
  obtain ⟨g, rb, ra, ns, gr, rs, av, ev_, L, T, rfl, hA⟩ := hR1
  have hz1 := hA.ext.size
  have hE := hE.thenExt hA.ext
  have hT1 := hA.ft
  have hfe := hA.fe
  have hok := hA.ok
  have hG : Fu.Good (Fw.els ns) := by rw [hfe]; exact hok.good
  have hel : (Fw.els ns).length = ns.length := List.length_map _
  have hn5 : ns.length ≤ 400001 := by rw [← hel, hfe]; exact hok.few
  have hR1 := hA.rt
  have hre := hA.re
  have hGr : Fu.Good (rels rs) := by rw [hre]; exact hok.good
  have hrl : (rels rs).length = rs.length := List.length_map _
  have hnr : rs.length ≤ 400001 := by rw [← hrl, hre]; exact hok.few
  have hef : rels rs = Fw.els ns := by rw [hre, hfe]
  refine WL.val (Y.move rfl) (by decide) ?_
  refine WL.val (Y.extract rfl rfl) (by decide) ?_
  refine WL.val (Y.extract rfl rfl) (by decide) ?_
  refine WL.val (Y.extract rfl rfl) (by decide) ?_
  refine WL.val (Y.assign rfl) (by decide) ?_
  refine WL.val (Y.assign rfl) (by decide) ?_
  refine WL.val (Y.assign rfl) (by decide) ?_
  refine WL.nil ?_
  refine hK2 _ _ ?_; try clear hK2 K2
  refine CW.seq fun K3 hK3 => ?_
  refine CW.seq fun K4 hK4 => ?_
  refine CW.region ?_
  refine WL.val (Y.move rfl) (by decide) ?_
  refine WL.val (Y.not rfl) (by decide) ?_
  refine WL.nil ?_
  refine hK4 _ _ ?_; try clear hK4 K4
  first | refine CW.condD rfl (fun ht5 => ?_) (fun ht5 => ?_) | refine CW.condND rfl (fun ht5 => ?_) (fun ht5 => ?_) | refine CW.condN rfl (fun ht5 => ?_) (fun ht5 => ?_) | refine CW.cond rfl (fun ht5 => ?_) (fun ht5 => ?_)
  · -- then
    refine CW.seq fun K6 hK6 => ?_
    refine CW.region ?_
    refine WL.val (Y.assign rfl) (by decide) ?_
    refine WL.nil ?_
    refine hK6 _ _ ?_; try clear hK6 K6
    refine CW.ret ⟨_, rfl, ?_⟩
    first | exact absurd rfl (by assumption) | (simp_all; done)
  refine CW.skip ?_
  refine hK3 _ _ ?_; try clear hK3 K3
  refine CW.seq fun K7 hK7 => ?_
  refine CW.region ?_
  refine WL.val (Y.move rfl) (by decide) ?_
  refine WL.val (Y.move rfl) (by decide) ?_
  refine WL.call Try.func11 rfl rfl rfl (fops_any g rb ra _ ns b _ hT1 hG hn5 hb) (by simp) ?_; rintro v23 w2 hR2
  obtain ⟨u1, rfl, hO1, hf1, hx2⟩ := hR2
  have hz2 := hx2.size
  have hE := hE.thenExt hx2
  refine WL.val (Y.move rfl) (by decide) ?_
  refine WL.val (Y.extract rfl rfl) (by decide) ?_
  refine WL.val (Y.extract rfl rfl) (by decide) ?_
  refine WL.val (Y.assign rfl) (by decide) ?_
  refine WL.val (Y.assign rfl) (by decide) ?_
  refine WL.nil ?_
  refine hK7 _ _ ?_; try clear hK7 K7
  refine CW.seq fun K8 hK8 => ?_
  refine CW.region ?_
  refine WL.val (Y.move rfl) (by decide) ?_
  refine WL.val (Y.move rfl) (by decide) ?_
  refine WL.call Try.func12 rfl rfl rfl (rops_any gr _ rs av ev_ b _ (hR1.ext hx2) hGr hnr hb) (by simp) ?_; rintro v29 w3 hR3
  obtain ⟨u2, rfl, hO2, hf2, hx3⟩ := hR3
  have hz3 := hx3.size
  have hE := hE.thenExt hx3
  rw [hef] at hO2 ⊢
  refine WL.val (Y.move rfl) (by decide) ?_
  refine WL.val (Y.extract rfl rfl) (by decide) ?_
  refine WL.val (Y.extract rfl rfl) (by decide) ?_
  refine WL.val (Y.assign rfl) (by decide) ?_
  refine WL.val (Y.assign rfl) (by decide) ?_
  refine WL.nil ?_
  refine hK8 _ _ ?_; try clear hK8 K8
  refine CW.seq fun K9 hK9 => ?_
  refine CW.region ?_
  refine WL.val (Y.move rfl) (by decide) ?_
  refine WL.val (Y.move rfl) (by decide) ?_
  refine WL.call Try.func13 rfl rfl rfl (sameOps_any u1 u2 _ _ _ ((hO1.ext hx3).sl opC_length (by decide)) (hO2.sl opC_length (by decide))) (by simp) ?_; rintro v w4 ⟨rfl, hx4⟩; have hz4 := hx4.size; have hE := hE.thenExt hx4
  refine WL.val (Y.move rfl) (by decide) ?_
  first | refine WL.casesD (d := 35) rfl (fun hg35 => ?_) (fun hg35 => ?_) | refine WL.casesND (d := 35) rfl (fun hg35 => ?_) (fun hg35 => ?_) | refine WL.cases (d := 35) rfl (fun hg35 => ?_) (fun hg35 => ?_)
  · -- t35 = T
    refine WL.gval rfl rfl (Y.move rfl) (by decide) ?_
    refine WL.gval rfl rfl (Y.move rfl) (by decide) ?_
    refine WL.gval rfl rfl (Y.eql rfl rfl) (by decide) ?_
    refine WL.val (Y.pick rfl rfl) (by decide) ?_
    refine WL.val (Y.move rfl) (by decide) ?_
    first | refine WL.casesD (d := 40) rfl (fun hg40 => ?_) (fun hg40 => ?_) | refine WL.casesND (d := 40) rfl (fun hg40 => ?_) (fun hg40 => ?_) | refine WL.cases (d := 40) rfl (fun hg40 => ?_) (fun hg40 => ?_)
    · -- t40 = T
      refine WL.gval rfl rfl (Y.move rfl) (by decide) ?_
      refine WL.gcall rfl rfl Try.func14 rfl rfl rfl (ftext_any g rb ra _ ns _ (((hT1.ext hx2).ext hx3).ext hx4) hG hn5) (by decide) ?_; rintro v w5 ⟨rfl, hx5⟩; have hz5 := hx5.size; have hE := hE.thenExt hx5
      refine WL.gval rfl rfl (Y.move rfl) (by decide) ?_
      refine WL.gcall rfl rfl Try.func15 rfl rfl rfl (rtext_any gr _ rs av ev_ _ ((((hR1.ext hx2).ext hx3).ext hx4).ext hx5) hGr hnr) (by decide) ?_; rintro v w6 ⟨rfl, hx6⟩; have hz6 := hx6.size; have hE := hE.thenExt hx6
      refine WL.gval rfl rfl (Y.eql_string rfl rfl) (by decide) ?_
      refine WL.val (Y.pick rfl rfl) (by decide) ?_
      refine WL.val (Y.move rfl) (by decide) ?_
      first | refine WL.casesD (d := 47) rfl (fun hg47 => ?_) (fun hg47 => ?_) | refine WL.casesND (d := 47) rfl (fun hg47 => ?_) (fun hg47 => ?_) | refine WL.cases (d := 47) rfl (fun hg47 => ?_) (fun hg47 => ?_)
      · -- t47 = T
        refine WL.gcall rfl rfl Try.func16 rfl rfl rfl (ealive_any _) (by decide) ?_; rintro v w7 ⟨rfl, hx7⟩; have hz7 := hx7.size; have hE := hE.thenExt hx7
        refine WL.val (Y.pick rfl rfl) (by decide) ?_
        refine WL.val (Y.assign rfl) (by decide) ?_
        refine WL.nil ?_
        refine hK9 _ _ ?_; try clear hK9 K9
        refine CW.ret ⟨_, rfl, ?_⟩
        exact ⟨rfl, hE⟩
      · -- t47 = F
        refine WL.goff rfl rfl (by decide) ?_
        refine WL.val (Y.pick rfl rfl) (by decide) ?_
        refine WL.val (Y.assign rfl) (by decide) ?_
        refine WL.nil ?_
        refine hK9 _ _ ?_; try clear hK9 K9
        refine CW.ret ⟨_, rfl, ?_⟩
        first | (exfalso; simp_all; done) | (rw [hef] at *; simp_all; done)
    · -- t40 = F
      refine WL.goff rfl rfl (by decide) ?_
      refine WL.goff rfl rfl (by decide) ?_
      refine WL.goff rfl rfl (by decide) ?_
      refine WL.goff rfl rfl (by decide) ?_
      refine WL.goff rfl rfl (by decide) ?_
      refine WL.val (Y.pick rfl rfl) (by decide) ?_
      refine WL.val (Y.move rfl) (by decide) ?_
      refine WL.goff rfl rfl (by decide) ?_
      refine WL.val (Y.pick rfl rfl) (by decide) ?_
      refine WL.val (Y.assign rfl) (by decide) ?_
      refine WL.nil ?_
      refine hK9 _ _ ?_; try clear hK9 K9
      refine CW.ret ⟨_, rfl, ?_⟩
      first | (exfalso; simp_all; done) | (rw [hef] at *; simp_all; done)
  · -- t35 = F
    refine WL.goff rfl rfl (by decide) ?_
    refine WL.goff rfl rfl (by decide) ?_
    refine WL.goff rfl rfl (by decide) ?_
    refine WL.val (Y.pick rfl rfl) (by decide) ?_
    refine WL.val (Y.move rfl) (by decide) ?_
    refine WL.goff rfl rfl (by decide) ?_
    refine WL.goff rfl rfl (by decide) ?_
    refine WL.goff rfl rfl (by decide) ?_
    refine WL.goff rfl rfl (by decide) ?_
    refine WL.goff rfl rfl (by decide) ?_
    refine WL.val (Y.pick rfl rfl) (by decide) ?_
    refine WL.val (Y.move rfl) (by decide) ?_
    refine WL.goff rfl rfl (by decide) ?_
    refine WL.val (Y.pick rfl rfl) (by decide) ?_
    refine WL.val (Y.assign rfl) (by decide) ?_
    refine WL.nil ?_
    refine hK9 _ _ ?_; try clear hK9 K9
    refine CW.ret ⟨_, rfl, ?_⟩
    first | (exfalso; simp_all; done) | (rw [hef] at *; simp_all; done)
end Go.Proofs.Ytmndofgagngcgaa
