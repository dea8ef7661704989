/- EditLands, walked. No condition. -/
import Derived.Test.YtmndofgagngcgaaJn
import Derived.Test.YtmndofgagngcgaaJx
set_option linter.unusedSimpArgs false
set_option linter.unusedVariables false
namespace Go.Proofs.Ytmndofgagngcgaa
open Go.RowKit Go.Fw Go.Fu Go.Pl

set_option maxRecDepth 100000 in
set_option maxHeartbeats 2000000 in
theorem lands_any (u : Value) (l : List CmV) (id : Dig) (b : List UInt8) (w : World) (hl : Cms w u l) (hb : b.length < 4611686018427387904) : Calls Try.prog 6 #[u, digV id, .string (bs b)] w (Ret fun v w' => v = .bool true ∧ Ext w w') := by
  obtain ⟨A, m, c, rfl, hm, hmc, hcm, _⟩ := _root_.id hl.sl
  unfold maxLen at hcm
  refine calls_of_CW 80 [6] [(0, .slice A m c), (1, digV id), (2, .string (bs b))] Try.func6 rfl rfl rfl (by simp) args3 ?_
  have hE : Ext w w := Chg.refl
  refine CW.seq fun K1 hK1 => ?_
  refine CW.region ?_
  refine WL.box rfl rfl (by decide) fun g4 w1 hx1 hg4 hB4 => ?_
  have hlt4 := hB4.lt; have hz1 := hx1.size
  have hM4 := hB4.mem; have hz1 := hx1.size; have hE := hE.thenExt hx1
  refine WL.val (Y.assign rfl) (by decide) ?_
  refine WL.nil ?_
  refine hK1 _ _ ?_; try clear hK1 K1
  refine CW.seq fun K2 hK2 => ?_
  refine CW.region ?_
  refine WL.val (Y.move rfl) (by decide) ?_
  refine WL.call Try.func10 rfl rfl rfl (grown_any _ l _ (hl.ext hE)) (by simp) ?_; rintro v16 w2 hR2
  obtain ⟨g, rb, ra, ns, gr, rs, av, ev_, L, T, rfl, hA⟩ := hR2
  have hz2 := hA.ext.size
  have hE := hE.thenExt hA.ext
  have hB4 := hB4.ext hA.ext
  obtain ⟨Tad, Te⟩ := T
  obtain rfl : Fw.els ns = Te := hA.fe
  have hT1 : FtAt w2 g rb ra Tad ns := hA.ft
  have hok := hA.ok
  have hG : Fu.Good (Fw.els ns) := hok.good
  have hel : (Fw.els ns).length = ns.length := List.length_map _
  have hn5 : ns.length ≤ 400001 := by rw [← hel]; exact hok.few
  have htl : (textE (Fw.els ns)).length = liveN ns := by
    have h1 : (seenE (Fw.els ns)).length = liveN ns := hG.seen_length
    rw [← h1]; simp [textE]
  have hfn := hA.fnew
  have hbs := bs_size b
  refine WL.val (Y.move rfl) (by decide) ?_
  refine WL.val (Y.extract rfl rfl) (by decide) ?_
  refine WL.val (Y.extract rfl rfl) (by decide) ?_
  refine WL.val (Y.extract rfl rfl) (by decide) ?_
  refine WL.val (Y.assign rfl) (by decide) ?_
  refine WL.val (Y.assign rfl) (by decide) ?_
  refine WL.val (Y.assign rfl) (by decide) ?_
  refine WL.nil ?_
  refine hK2 _ _ ?_; try clear hK2 K2
  refine CW.seq fun K3 hK3 => ?_
  refine CW.seq fun K4 hK4 => ?_
  refine CW.region ?_
  refine WL.val (Y.move rfl) (by decide) ?_
  refine WL.val (Y.not rfl) (by decide) ?_
  refine WL.nil ?_
  refine hK4 _ _ ?_; try clear hK4 K4
  first | refine CW.condD rfl (fun ht5 => ?_) (fun ht5 => ?_) | refine CW.condND rfl (fun ht5 => ?_) (fun ht5 => ?_) | refine CW.condN rfl (fun ht5 => ?_) (fun ht5 => ?_) | refine CW.cond rfl (fun ht5 => ?_) (fun ht5 => ?_)
  · -- then
    refine CW.seq fun K6 hK6 => ?_
    refine CW.region ?_
    refine WL.val (Y.assign rfl) (by decide) ?_
    refine WL.nil ?_
    refine hK6 _ _ ?_; try clear hK6 K6
    refine CW.ret ⟨_, rfl, ?_⟩
    first | exact absurd rfl (by assumption) | (simp_all; done)
  refine CW.skip ?_
  refine hK3 _ _ ?_; try clear hK3 K3
  refine CW.seq fun K7 hK7 => ?_
  refine CW.region ?_
  refine WL.val (Y.move rfl) (by decide) ?_
  refine WL.val (Y.move rfl) (by decide) ?_
  refine WL.call Try.func11 rfl rfl rfl (fops_any g rb ra _ ns b _ hT1 hG hn5 hb) (by simp) ?_; rintro v25 w3 hR3
  obtain ⟨u3, rfl, hO3, hf3, hx3⟩ := hR3
  have hz3 := hx3.size
  have hE := hE.thenExt hx3
  have hB4 := hB4.ext hx3
  obtain ⟨A3, m3, c3, rfl⟩ := hO3.lens
  have hm3 := (hO3.len opC_length (by decide)).1
  obtain ⟨e3, he3⟩ : ∃ e3 : Int, e3 = ((mkErr (textE (Fw.els ns)) b : Nat) : Int) := ⟨_, rfl⟩
  have hmk : e3 = 0 ∨ (e3 = 3 ∧ ((1000 : Int) < ((bs b).size : Int) ∨ (1000 : Int) < (liveN ns : Int))) := by
    rw [he3]; unfold mkErr
    split
    · right; refine ⟨rfl, ?_⟩; omega
    · left; rfl
  have hm30 : e3 = 0 ∨ (m3 : Int) = 0 := by
    rcases Decidable.em (mkErr (textE (Fw.els ns)) b = 0) with h | h
    · left; rw [he3, h]; rfl
    · right; rw [← hm3, opsR, if_neg h]; rfl
  rw [← he3]
  refine WL.val (Y.move rfl) (by decide) ?_
  refine WL.val (Y.extract rfl rfl) (by decide) ?_
  refine WL.val (Y.extract rfl rfl) (by decide) ?_
  refine WL.val (Y.assign rfl) (by decide) ?_
  refine WL.val (Y.assign rfl) (by decide) ?_
  refine WL.nil ?_
  refine hK7 _ _ ?_; try clear hK7 K7
  refine CW.seq fun K8 hK8 => ?_
  refine CW.seq fun K9 hK9 => ?_
  refine CW.region ?_
  refine WL.val (Y.move rfl) (by decide) ?_
  refine WL.val (Y.neq rfl rfl) (by decide) ?_
  refine WL.nil ?_
  refine hK9 _ _ ?_; try clear hK9 K9
  first | refine CW.condD rfl (fun ht10 => ?_) (fun ht10 => ?_) | refine CW.condND rfl (fun ht10 => ?_) (fun ht10 => ?_) | refine CW.condN rfl (fun ht10 => ?_) (fun ht10 => ?_) | refine CW.cond rfl (fun ht10 => ?_) (fun ht10 => ?_)
  · -- then
    refine CW.seq fun K11 hK11 => ?_
    refine CW.region ?_
    refine WL.val (Y.move rfl) (by decide) ?_
    refine WL.val (Y.eql rfl rfl) (by decide) ?_
    refine WL.val (Y.move rfl) (by decide) ?_
    first | refine WL.casesD (d := 32) rfl (fun hg32 => ?_) (fun hg32 => ?_) | refine WL.casesND (d := 32) rfl (fun hg32 => ?_) (fun hg32 => ?_) | refine WL.cases (d := 32) rfl (fun hg32 => ?_) (fun hg32 => ?_)
    · -- t32 = T
      refine WL.gval rfl rfl (Y.move rfl) (by decide) ?_
      refine WL.gval rfl rfl (Y.len_string Try.underlying9 rfl) (by decide) ?_
      refine WL.gval rfl rfl (Y.gtr rfl rfl) (by decide) ?_
      refine WL.gval rfl rfl (Y.move rfl) (by decide) ?_
      first | refine WL.casesD (d := 36) rfl (fun hg36 => ?_) (fun hg36 => ?_) | refine WL.casesND (d := 36) rfl (fun hg36 => ?_) (fun hg36 => ?_) | refine WL.cases (d := 36) rfl (fun hg36 => ?_) (fun hg36 => ?_)
      · -- t36 = T
        refine WL.goff rfl rfl (by decide) ?_
        refine WL.goff rfl rfl (by decide) ?_
        refine WL.goff rfl rfl (by decide) ?_
        refine WL.gval rfl rfl (Y.pick rfl rfl) (by decide) ?_
        refine WL.val (Y.pick rfl rfl) (by decide) ?_
        refine WL.val (Y.move rfl) (by decide) ?_
        refine WL.gval rfl rfl (Y.move rfl) (by decide) ?_
        refine WL.gval rfl rfl (Y.len_slice Try.underlying27 rfl) (by decide) ?_
        refine WL.gval rfl rfl (Y.eql rfl rfl) (by decide) ?_
        refine WL.val (Y.pick rfl rfl) (by decide) ?_
        refine WL.val (Y.move rfl) (by decide) ?_
        first | refine WL.casesD (d := 47) rfl (fun hg47 => ?_) (fun hg47 => ?_) | refine WL.casesND (d := 47) rfl (fun hg47 => ?_) (fun hg47 => ?_) | refine WL.cases (d := 47) rfl (fun hg47 => ?_) (fun hg47 => ?_)
        · -- t47 = T
          refine WL.gcall rfl rfl Try.func16 rfl rfl rfl (ealive_any _) (by decide) ?_; rintro v w4 ⟨rfl, hx4⟩; have hz4 := hx4.size; have hE := hE.thenExt hx4; have hB4 := hB4.ext hx4
          refine WL.val (Y.pick rfl rfl) (by decide) ?_
          refine WL.val (Y.assign rfl) (by decide) ?_
          refine WL.nil ?_
          refine hK11 _ _ ?_; try clear hK11 K11
          refine CW.ret ⟨_, rfl, ?_⟩
          exact ⟨rfl, hE⟩
        · -- t47 = F
          refine WL.goff rfl rfl (by decide) ?_
          refine WL.val (Y.pick rfl rfl) (by decide) ?_
          refine WL.val (Y.assign rfl) (by decide) ?_
          refine WL.nil ?_
          refine hK11 _ _ ?_; try clear hK11 K11
          refine CW.ret ⟨_, rfl, ?_⟩
          first | (exfalso; omega) | (exfalso; simp_all; done)
      · -- t36 = F
        refine WL.gval rfl rfl (Y.move rfl) (by decide) ?_
        refine WL.gcall rfl rfl Try.func20 rfl rfl rfl (flen_any g rb ra _ ns _ (hT1.ext hx3)) (by decide) ?_; rintro v w5 ⟨rfl, hx5⟩; have hz5 := hx5.size; have hE := hE.thenExt hx5; have hB4 := hB4.ext hx5
        refine WL.gval rfl rfl (Y.gtr rfl rfl) (by decide) ?_
        refine WL.gval rfl rfl (Y.pick rfl rfl) (by decide) ?_
        refine WL.val (Y.pick rfl rfl) (by decide) ?_
        refine WL.val (Y.move rfl) (by decide) ?_
        first | refine WL.casesD (d := 42) rfl (fun hg42 => ?_) (fun hg42 => ?_) | refine WL.casesND (d := 42) rfl (fun hg42 => ?_) (fun hg42 => ?_) | refine WL.cases (d := 42) rfl (fun hg42 => ?_) (fun hg42 => ?_)
        · -- t42 = T
          refine WL.gval rfl rfl (Y.move rfl) (by decide) ?_
          refine WL.gval rfl rfl (Y.len_slice Try.underlying27 rfl) (by decide) ?_
          refine WL.gval rfl rfl (Y.eql rfl rfl) (by decide) ?_
          refine WL.val (Y.pick rfl rfl) (by decide) ?_
          refine WL.val (Y.move rfl) (by decide) ?_
          first | refine WL.casesD (d := 47) rfl (fun hg47 => ?_) (fun hg47 => ?_) | refine WL.casesND (d := 47) rfl (fun hg47 => ?_) (fun hg47 => ?_) | refine WL.cases (d := 47) rfl (fun hg47 => ?_) (fun hg47 => ?_)
          · -- t47 = T
            refine WL.gcall rfl rfl Try.func16 rfl rfl rfl (ealive_any _) (by decide) ?_; rintro v w6 ⟨rfl, hx6⟩; have hz6 := hx6.size; have hE := hE.thenExt hx6; have hB4 := hB4.ext hx6
            refine WL.val (Y.pick rfl rfl) (by decide) ?_
            refine WL.val (Y.assign rfl) (by decide) ?_
            refine WL.nil ?_
            refine hK11 _ _ ?_; try clear hK11 K11
            refine CW.ret ⟨_, rfl, ?_⟩
            exact ⟨rfl, hE⟩
          · -- t47 = F
            refine WL.goff rfl rfl (by decide) ?_
            refine WL.val (Y.pick rfl rfl) (by decide) ?_
            refine WL.val (Y.assign rfl) (by decide) ?_
            refine WL.nil ?_
            refine hK11 _ _ ?_; try clear hK11 K11
            refine CW.ret ⟨_, rfl, ?_⟩
            first | (exfalso; omega) | (exfalso; simp_all; done)
        · -- t42 = F
          refine WL.goff rfl rfl (by decide) ?_
          refine WL.goff rfl rfl (by decide) ?_
          refine WL.goff rfl rfl (by decide) ?_
          refine WL.val (Y.pick rfl rfl) (by decide) ?_
          refine WL.val (Y.move rfl) (by decide) ?_
          refine WL.goff rfl rfl (by decide) ?_
          refine WL.val (Y.pick rfl rfl) (by decide) ?_
          refine WL.val (Y.assign rfl) (by decide) ?_
          refine WL.nil ?_
          refine hK11 _ _ ?_; try clear hK11 K11
          refine CW.ret ⟨_, rfl, ?_⟩
          first | (exfalso; omega) | (exfalso; simp_all; done)
    · -- t32 = F
      refine WL.goff rfl rfl (by decide) ?_
      refine WL.goff rfl rfl (by decide) ?_
      refine WL.goff rfl rfl (by decide) ?_
      refine WL.goff rfl rfl (by decide) ?_
      refine WL.goffU rfl rfl (by decide) ?_
      refine WL.goffU rfl rfl (by decide) ?_
      refine WL.goffU rfl rfl (by decide) ?_
      refine WL.goff rfl rfl (by decide) ?_
      refine WL.val (Y.pick rfl rfl) (by decide) ?_
      refine WL.val (Y.move rfl) (by decide) ?_
      refine WL.goff rfl rfl (by decide) ?_
      refine WL.goff rfl rfl (by decide) ?_
      refine WL.goff rfl rfl (by decide) ?_
      refine WL.val (Y.pick rfl rfl) (by decide) ?_
      refine WL.val (Y.move rfl) (by decide) ?_
      refine WL.goff rfl rfl (by decide) ?_
      refine WL.val (Y.pick rfl rfl) (by decide) ?_
      refine WL.val (Y.assign rfl) (by decide) ?_
      refine WL.nil ?_
      refine hK11 _ _ ?_; try clear hK11 K11
      refine CW.ret ⟨_, rfl, ?_⟩
      first | (exfalso; omega) | (exfalso; simp_all; done)
  refine CW.skip ?_
  refine hK8 _ _ ?_; try clear hK8 K8
  have he30 : e3 = 0 := Decidable.not_not.1 (by assumption)
  have hok0 : mkErr (textE (Fw.els ns)) b = 0 := by omega
  rw [opsR, if_pos hok0] at hO3
  have hO3lt := hO3.lt
  refine CW.seq fun K12 hK12 => ?_
  refine CW.region ?_
  refine WL.val (Y.move rfl) (by decide) ?_
  refine WL.call Try.func14 rfl rfl rfl (ftext_any g rb ra _ ns _ (hT1.ext hx3) hG hn5) (by simp) ?_; rintro v w7 ⟨rfl, hx7⟩; have hz7 := hx7.size; have hE := hE.thenExt hx7; have hB4 := hB4.ext hx7
  refine WL.val (Y.assign rfl) (by decide) ?_
  refine WL.nil ?_
  refine hK12 _ _ ?_; try clear hK12 K12
  refine CW.seq fun K13 hK13 => ?_
  refine CW.region ?_
  refine WL.val (Y.move rfl) (by decide) ?_
  refine WL.val (Y.load Try.underlying50 rfl hB4.mem (sz_apiDigest _) rfl) (by decide) ?_
  refine WL.val (Y.move rfl) (by decide) ?_
  refine WL.call Try.func21 rfl rfl rfl (fadd_any g rb ra Tad ns id _ (opsE (Fw.els ns) b) L _ ((hT1.ext hx3).ext hx7) hok ((hO3.sl opC_length (by decide)).ext hx7) (fun _ k hk => ⟨by have := hO3lt k hk; omega, fun h => by have h1 := hT1.lt h; have h2 := hf3 k hk; omega⟩)) (by simp) ?_; rintro v55 w8 hR8
  obtain ⟨rfl, ns8, hT8, he8, hc8, hf8, _⟩ := hR8
  have hz8 := hc8.size
  have hE := hE.step hc8 (fun q hq => by have := hfn q hq; omega)
  have hB4 := hB4.chg hc8 (fun hq => by have := hfn _ hq; omega)
  obtain ⟨L8, hok8, _⟩ := hok.addT id (opsE (Fw.els ns) b)
  have hG8 : Fu.Good (Fw.els ns8) := by rw [he8]; exact hok8.good
  have hel8 : (Fw.els ns8).length = ns8.length := List.length_map _
  have hn8 : ns8.length ≤ 400001 := by rw [← hel8, he8]; exact hok8.few
  have hwc := ops_wrong (id := id) hok b
  have hzero : wrongC ⟨Tad, Fw.els ns⟩ id (opsE (Fw.els ns) b) = 0 → textE (Fw.els ns8) = b := fun h => by rw [he8]; exact (ops_tree hok h).1
  have hbad : ¬ wrongC ⟨Tad, Fw.els ns⟩ id (opsE (Fw.els ns) b) = 0 → textE (Fw.els ns8) = textE (Fw.els ns) := fun h => by rw [he8, addT, if_neg h]
  have hwc' : wrongC ⟨Tad, Fw.els ns⟩ id (opsE (Fw.els ns) b) = 0 ∨ wrongC ⟨Tad, Fw.els ns⟩ id (opsE (Fw.els ns) b) = 6 ∨ wrongC ⟨Tad, Fw.els ns⟩ id (opsE (Fw.els ns) b) = 4 := hwc
  generalize wrongC ⟨Tad, Fw.els ns⟩ id (opsE (Fw.els ns) b) = ec at hwc' hzero hbad hT8 ⊢
  refine WL.val (Y.assign rfl) (by decide) ?_
  refine WL.nil ?_
  refine hK13 _ _ ?_; try clear hK13 K13
  refine CW.seq fun K14 hK14 => ?_
  refine CW.seq fun K15 hK15 => ?_
  refine CW.region ?_
  refine WL.val (Y.move rfl) (by decide) ?_
  refine WL.val (Y.neq rfl rfl) (by decide) ?_
  refine WL.nil ?_
  refine hK15 _ _ ?_; try clear hK15 K15
  first | refine CW.condD rfl (fun ht16 => ?_) (fun ht16 => ?_) | refine CW.condND rfl (fun ht16 => ?_) (fun ht16 => ?_) | refine CW.condN rfl (fun ht16 => ?_) (fun ht16 => ?_) | refine CW.cond rfl (fun ht16 => ?_) (fun ht16 => ?_)
  · -- then
    refine CW.seq fun K17 hK17 => ?_
    refine CW.region ?_
    refine WL.val (Y.move rfl) (by decide) ?_
    refine WL.val (Y.eql rfl rfl) (by decide) ?_
    refine WL.val (Y.move rfl) (by decide) ?_
    first | refine WL.casesD (d := 60) rfl (fun hg60 => ?_) (fun hg60 => ?_) | refine WL.casesND (d := 60) rfl (fun hg60 => ?_) (fun hg60 => ?_) | refine WL.cases (d := 60) rfl (fun hg60 => ?_) (fun hg60 => ?_)
    · -- t60 = T
      refine WL.goff rfl rfl (by decide) ?_
      refine WL.goff rfl rfl (by decide) ?_
      refine WL.val (Y.pick rfl rfl) (by decide) ?_
      refine WL.val (Y.move rfl) (by decide) ?_
      refine WL.gval rfl rfl (Y.move rfl) (by decide) ?_
      refine WL.gcall rfl rfl Try.func14 rfl rfl rfl (ftext_any g rb ra _ ns8 _ hT8 hG8 hn8) (by decide) ?_; rintro v w9 ⟨rfl, hx9⟩; have hz9 := hx9.size; have hE := hE.thenExt hx9; have hB4 := hB4.ext hx9
      refine WL.gval rfl rfl (Y.move rfl) (by decide) ?_
      refine WL.gval rfl rfl (Y.eql_string rfl rfl) (by decide) ?_
      refine WL.val (Y.pick rfl rfl) (by decide) ?_
      refine WL.val (Y.move rfl) (by decide) ?_
      first | refine WL.casesD (d := 70) rfl (fun hg70 => ?_) (fun hg70 => ?_) | refine WL.casesND (d := 70) rfl (fun hg70 => ?_) (fun hg70 => ?_) | refine WL.cases (d := 70) rfl (fun hg70 => ?_) (fun hg70 => ?_)
      · -- t70 = T
        refine WL.gcall rfl rfl Try.func16 rfl rfl rfl (ealive_any _) (by decide) ?_; rintro v w10 ⟨rfl, hx10⟩; have hz10 := hx10.size; have hE := hE.thenExt hx10; have hB4 := hB4.ext hx10
        refine WL.val (Y.pick rfl rfl) (by decide) ?_
        refine WL.val (Y.assign rfl) (by decide) ?_
        refine WL.nil ?_
        refine hK17 _ _ ?_; try clear hK17 K17
        refine CW.ret ⟨_, rfl, ?_⟩
        exact ⟨rfl, hE⟩
      · -- t70 = F
        refine WL.goff rfl rfl (by decide) ?_
        refine WL.val (Y.pick rfl rfl) (by decide) ?_
        refine WL.val (Y.assign rfl) (by decide) ?_
        refine WL.nil ?_
        refine hK17 _ _ ?_; try clear hK17 K17
        refine CW.ret ⟨_, rfl, ?_⟩
        exfalso
        have h9 := hbad (by assumption)
        simp_all
    · -- t60 = F
      refine WL.gval rfl rfl (Y.move rfl) (by decide) ?_
      refine WL.gval rfl rfl (Y.eql rfl rfl) (by decide) ?_
      refine WL.val (Y.pick rfl rfl) (by decide) ?_
      refine WL.val (Y.move rfl) (by decide) ?_
      first | refine WL.casesD (d := 64) rfl (fun hg64 => ?_) (fun hg64 => ?_) | refine WL.casesND (d := 64) rfl (fun hg64 => ?_) (fun hg64 => ?_) | refine WL.cases (d := 64) rfl (fun hg64 => ?_) (fun hg64 => ?_)
      · -- t64 = T
        refine WL.gval rfl rfl (Y.move rfl) (by decide) ?_
        refine WL.gcall rfl rfl Try.func14 rfl rfl rfl (ftext_any g rb ra _ ns8 _ hT8 hG8 hn8) (by decide) ?_; rintro v w11 ⟨rfl, hx11⟩; have hz11 := hx11.size; have hE := hE.thenExt hx11; have hB4 := hB4.ext hx11
        refine WL.gval rfl rfl (Y.move rfl) (by decide) ?_
        refine WL.gval rfl rfl (Y.eql_string rfl rfl) (by decide) ?_
        refine WL.val (Y.pick rfl rfl) (by decide) ?_
        refine WL.val (Y.move rfl) (by decide) ?_
        first | refine WL.casesD (d := 70) rfl (fun hg70 => ?_) (fun hg70 => ?_) | refine WL.casesND (d := 70) rfl (fun hg70 => ?_) (fun hg70 => ?_) | refine WL.cases (d := 70) rfl (fun hg70 => ?_) (fun hg70 => ?_)
        · -- t70 = T
          refine WL.gcall rfl rfl Try.func16 rfl rfl rfl (ealive_any _) (by decide) ?_; rintro v w12 ⟨rfl, hx12⟩; have hz12 := hx12.size; have hE := hE.thenExt hx12; have hB4 := hB4.ext hx12
          refine WL.val (Y.pick rfl rfl) (by decide) ?_
          refine WL.val (Y.assign rfl) (by decide) ?_
          refine WL.nil ?_
          refine hK17 _ _ ?_; try clear hK17 K17
          refine CW.ret ⟨_, rfl, ?_⟩
          exact ⟨rfl, hE⟩
        · -- t70 = F
          refine WL.goff rfl rfl (by decide) ?_
          refine WL.val (Y.pick rfl rfl) (by decide) ?_
          refine WL.val (Y.assign rfl) (by decide) ?_
          refine WL.nil ?_
          refine hK17 _ _ ?_; try clear hK17 K17
          refine CW.ret ⟨_, rfl, ?_⟩
          exfalso
          have h9 := hbad (by assumption)
          simp_all
      · -- t64 = F
        refine WL.goff rfl rfl (by decide) ?_
        refine WL.goff rfl rfl (by decide) ?_
        refine WL.goff rfl rfl (by decide) ?_
        refine WL.goff rfl rfl (by decide) ?_
        refine WL.val (Y.pick rfl rfl) (by decide) ?_
        refine WL.val (Y.move rfl) (by decide) ?_
        refine WL.goff rfl rfl (by decide) ?_
        refine WL.val (Y.pick rfl rfl) (by decide) ?_
        refine WL.val (Y.assign rfl) (by decide) ?_
        refine WL.nil ?_
        refine hK17 _ _ ?_; try clear hK17 K17
        refine CW.ret ⟨_, rfl, ?_⟩
        first | (exfalso; omega) | (exfalso; simp_all; done)
  refine CW.skip ?_
  refine hK14 _ _ ?_; try clear hK14 K14
  refine CW.seq fun K18 hK18 => ?_
  refine CW.region ?_
  refine WL.val (Y.move rfl) (by decide) ?_
  refine WL.call Try.func14 rfl rfl rfl (ftext_any g rb ra _ ns8 _ hT8 hG8 hn8) (by simp) ?_; rintro v w13 ⟨rfl, hx13⟩; have hz13 := hx13.size; have hE := hE.thenExt hx13; have hB4 := hB4.ext hx13
  refine WL.val (Y.move rfl) (by decide) ?_
  refine WL.val (Y.eql_string rfl rfl) (by decide) ?_
  refine WL.val (Y.move rfl) (by decide) ?_
  first | refine WL.casesD (d := 77) rfl (fun hg77 => ?_) (fun hg77 => ?_) | refine WL.casesND (d := 77) rfl (fun hg77 => ?_) (fun hg77 => ?_) | refine WL.cases (d := 77) rfl (fun hg77 => ?_) (fun hg77 => ?_)
  · -- t77 = T
    refine WL.gcall rfl rfl Try.func16 rfl rfl rfl (ealive_any _) (by decide) ?_; rintro v w14 ⟨rfl, hx14⟩; have hz14 := hx14.size; have hE := hE.thenExt hx14; have hB4 := hB4.ext hx14
    refine WL.val (Y.pick rfl rfl) (by decide) ?_
    refine WL.val (Y.assign rfl) (by decide) ?_
    refine WL.nil ?_
    refine hK18 _ _ ?_; try clear hK18 K18
    refine CW.ret ⟨_, rfl, ?_⟩
    exact ⟨rfl, hE⟩
  · -- t77 = F
    refine WL.goff rfl rfl (by decide) ?_
    refine WL.val (Y.pick rfl rfl) (by decide) ?_
    refine WL.val (Y.assign rfl) (by decide) ?_
    refine WL.nil ?_
    refine hK18 _ _ ?_; try clear hK18 K18
    refine CW.ret ⟨_, rfl, ?_⟩
    exfalso
    have h9 := hzero (Decidable.not_not.1 (by assumption))
    simp_all
end Go.Proofs.Ytmndofgagngcgaa
