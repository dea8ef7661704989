/- EditBlames, walked. No condition. -/
import Derived.Test.YtmndofgagngcgaaJn
import Derived.Test.YtmndofgagngcgaaJm
set_option linter.unusedSimpArgs false
set_option linter.unusedVariables false
namespace Go.Proofs.Ytmndofgagngcgaa
open Go.RowKit Go.Fw Go.Fu Go.Pl

theorem blames_any (u : Value) (l : List CmV) (w : World) (hl : Cms w u l) : Calls Try.prog 4 #[u] w (Ret fun v w' => v = .bool true ∧ Ext w w') := by
  obtain ⟨A, m, c, rfl, hm, hmc, hcm, _⟩ := _root_.id hl.sl
  unfold maxLen at hcm
  refine calls_of_CW 23 [2] [(0, .slice A m c)] Try.func4 rfl rfl rfl (by simp) args1 ?_
  have hE : Ext w w := Chg.refl
  refine CW.seq fun K1 hK1 => ?_
  refine CW.region ?_
  refine WL.val (Y.assign rfl) (by decide) ?_
  refine WL.nil ?_
  refine hK1 _ _ ?_; try clear hK1 K1
  refine CW.seq fun K2 hK2 => ?_
  refine CW.region ?_
  refine WL.val (Y.move rfl) (by decide) ?_
  refine WL.call Try.func10 rfl rfl rfl (grown_any _ l _ (hl.ext hE)) (by simp) ?_; rintro v8 w1 hR1
  obtain ⟨g, rb, ra, ns, gr, rs, av, ev_, L, T, rfl, hA⟩ := hR1
  have hz1 := hA.ext.size
  have hE := hE.thenExt hA.ext
  have hT1 := hA.ft
  have hfe := hA.fe
  have hok := hA.ok
  have hG : Fu.Good (Fw.els ns) := by rw [hfe]; exact hok.good
  have hel : (Fw.els ns).length = ns.length := List.length_map _
  have hn5 : ns.length ≤ 400001 := by rw [← hel, hfe]; exact hok.few
  have hR1 := hA.rt
  have hre := hA.re
  have hGr : Fu.Good (rels rs) := by rw [hre]; exact hok.good
  have hrl : (rels rs).length = rs.length := List.length_map _
  have hnr : rs.length ≤ 400001 := by rw [← hrl, hre]; exact hok.few
  have hef : rels rs = Fw.els ns := by rw [hre, hfe]
  refine WL.val (Y.move rfl) (by decide) ?_
  refine WL.val (Y.extract rfl rfl) (by decide) ?_
  refine WL.val (Y.extract rfl rfl) (by decide) ?_
  refine WL.val (Y.extract rfl rfl) (by decide) ?_
  refine WL.val (Y.assign rfl) (by decide) ?_
  refine WL.val (Y.assign rfl) (by decide) ?_
  refine WL.val (Y.assign rfl) (by decide) ?_
  refine WL.nil ?_
  refine hK2 _ _ ?_; try clear hK2 K2
  refine CW.seq fun K3 hK3 => ?_
  refine CW.region ?_
  refine WL.val (Y.move rfl) (by decide) ?_
  refine WL.val (Y.move rfl) (by decide) ?_
  first | refine WL.casesD (d := 13) rfl (fun hg13 => ?_) (fun hg13 => ?_) | refine WL.casesND (d := 13) rfl (fun hg13 => ?_) (fun hg13 => ?_) | refine WL.cases (d := 13) rfl (fun hg13 => ?_) (fun hg13 => ?_)
  · -- t13 = T
    refine WL.gval rfl rfl (Y.move rfl) (by decide) ?_
    refine WL.gcall rfl rfl Try.func18 rfl rfl rfl (fblame_any g rb ra _ ns _ hT1 hG hn5) (by decide) ?_; rintro v15 w2 hR2
    obtain ⟨hO1, hf1, hx2⟩ := hR2
    have hz2 := hx2.size
    have hE := hE.thenExt hx2
    refine WL.gval rfl rfl (Y.move rfl) (by decide) ?_
    refine WL.gcall rfl rfl Try.func19 rfl rfl rfl (rblame_any gr _ rs av ev_ _ (hR1.ext hx2) hGr hnr) (by decide) ?_; rintro v17 w3 hR3
    obtain ⟨hO2, hf2, hx3⟩ := hR3
    have hz3 := hx3.size
    have hE := hE.thenExt hx3
    rw [hef] at hO2
    refine WL.gcall rfl rfl Try.func17 rfl rfl rfl (sameRuns_any _ _ _ _ _ ((hO1.ext hx3).sl runC_length (by decide)) (hO2.sl runC_length (by decide))) (by decide) ?_; rintro v w4 ⟨rfl, hx4⟩; have hz4 := hx4.size; have hE := hE.thenExt hx4
    refine WL.val (Y.pick rfl rfl) (by decide) ?_
    refine WL.val (Y.move rfl) (by decide) ?_
    first | refine WL.casesD (d := 20) rfl (fun hg20 => ?_) (fun hg20 => ?_) | refine WL.casesND (d := 20) rfl (fun hg20 => ?_) (fun hg20 => ?_) | refine WL.cases (d := 20) rfl (fun hg20 => ?_) (fun hg20 => ?_)
    · -- t20 = T
      refine WL.gcall rfl rfl Try.func16 rfl rfl rfl (ealive_any _) (by decide) ?_; rintro v w5 ⟨rfl, hx5⟩; have hz5 := hx5.size; have hE := hE.thenExt hx5
      refine WL.val (Y.pick rfl rfl) (by decide) ?_
      refine WL.val (Y.assign rfl) (by decide) ?_
      refine WL.nil ?_
      refine hK3 _ _ ?_; try clear hK3 K3
      refine CW.ret ⟨_, rfl, ?_⟩
      exact ⟨rfl, hE⟩
    · -- t20 = F
      refine WL.goff rfl rfl (by decide) ?_
      refine WL.val (Y.pick rfl rfl) (by decide) ?_
      refine WL.val (Y.assign rfl) (by decide) ?_
      refine WL.nil ?_
      refine hK3 _ _ ?_; try clear hK3 K3
      refine CW.ret ⟨_, rfl, ?_⟩
      exfalso; simp_all
  · -- t13 = F
    refine WL.goff rfl rfl (by decide) ?_
    refine WL.goff rfl rfl (by decide) ?_
    refine WL.goff rfl rfl (by decide) ?_
    refine WL.goff rfl rfl (by decide) ?_
    refine WL.goff rfl rfl (by decide) ?_
    refine WL.val (Y.pick rfl rfl) (by decide) ?_
    refine WL.val (Y.move rfl) (by decide) ?_
    refine WL.goff rfl rfl (by decide) ?_
    refine WL.val (Y.pick rfl rfl) (by decide) ?_
    refine WL.val (Y.assign rfl) (by decide) ?_
    refine WL.nil ?_
    refine hK3 _ _ ?_; try clear hK3 K3
    refine CW.ret ⟨_, rfl, ?_⟩
    exfalso; simp_all
end Go.Proofs.Ytmndofgagngcgaa
