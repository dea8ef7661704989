/- Parts of a proof: what its last text leans on. No condition. -/
import Derived.Test.YtjbeooimhoilmaaDoorK23
set_option linter.unusedSimpArgs false
set_option linter.unusedVariables false
/- HistoryStays, walked. No condition but bounds and the table of digest.keys. -/
namespace Go.Proofs.YtjbeooimhoilmaaDoor
open Go.RowKit Go.Fw Go.Pl Go.Sort Go.Fu
theorem own_snoc {wa wb : World} {v v' : Value} {ys : List CoV} {m : CoV} (hy : ∀ y ∈ ys, CoOn wa y ∧ ∀ k, v.ownBlock = some k → CoOff y k) (hm : CoAt wb m) (hO : Fw.Own wb 37 4 v' ((ys.map coC).flatten ++ coC m)) (hc : Chg (fun g => v.ownBlock = some g) wa wb) : Hcs wb v' (ys ++ [m]) := by
  refine ⟨Own.sl (xs := ys ++ [m]) (by rw [List.map_append, List.flatten_append]; simpa using hO) coC_length (by decide), fun x hx => ?_⟩
  rcases List.mem_append.1 hx with h | h
  · exact ((hy x h).1.chg hc (hy x h).2).co
  · rw [List.mem_singleton] at h; exact h ▸ hm
set_option maxHeartbeats 2000000 in
theorem hstays_any (u0 s : Value) (l : List CoV) (m : CoV) (so : List Int) (w : World) (hl : Hcs w u0 l) (hm : CoAt w m) (hs : Sl w i1C 1 s so) (hsm : ∀ x ∈ l, CoSm x) (hnl : l.length ≤ 1048576) (hns : so.length ≤ 1048576) (hK : Mem w ⟨0, 0, none⟩ (wds keysL)) : Calls Tryd.prog 4 #[u0, coV m, s] w (Ret fun v w' => v = .bool true ∧ Ext w w') := by
  refine calls_of_CW 69 [6] [(0, u0), (1, coV m), (2, s)] Tryd.func4 rfl rfl rfl (by simp) args3 ?_
  have hE : Ext w w := Chg.refl
  refine CW.seq fun K1 hK1 => ?_
  refine CW.region ?_
  refine WL.box rfl rfl (by decide) fun g4 w1 hx1 hg4 hB4 => ?_
  have hlt4 := hB4.lt; have hz1 := hx1.size
  have hM4 := hB4.mem; have hz1 := hx1.size; have hE := hE.thenExt hx1; have hl := hl.ext hx1; have hK := hK.ext hx1; have hs := hs.ext hx1
  refine WL.val (Y.assign rfl) (by decide) ?_
  refine WL.nil ?_
  refine hK1 _ _ ?_; try clear hK1 K1
  refine CW.seq_to (X := Value × List CoV) (fun y => [(0, u0), (2, s), (7, y.1)]) (fun y w0 => csL y.2 = csL l ++ [m.c] ∧ Hcs w0 y.1 y.2 ∧ Ext w1 w0) ?_ ?_
  · skip
    refine CW.held (fun wq => Ext w1 wq) (by kernel_rfl) 6 rfl fun w2 hS => ?_
    refine RH.take 0 (fun _ _ _ _ h => h) (by kernel_rfl) hS rfl (by kernel_rfl) (by kernel_rfl) (fun wq hq => Y.move rfl) (by decide) ?_
    refine RH.take 2 (fun _ _ _ _ h => h) (by kernel_rfl) hS rfl (by kernel_rfl) (by kernel_rfl) (fun wq hq => Y.load Tryd.underlying37 rfl (hB4.ext hq).mem (sz_apiCommit _ _ _ _) rfl) (by decide) ?_
    refine RH.two 1 3 (by kernel_rfl) ?_ ?_
    · skip
      refine RS.call rfl (fun _ _ h => by cases h) Tryd.func12 rfl rfl rfl (hown_any _ l _ (hl.ext hS) hsm hnl) (by decide) fun v18 w3 hR3 => ?_
      obtain ⟨ys, hyc, hya, hO, hfu, hx3⟩ := hR3
      have hz0_ := hS.size
      have hS := hS.thenExt hx3
      have hyl : ys.length = l.length := by have := congrArg List.length hyc; simpa using this
      have hz2 := hx3.size
      refine ⟨hS, ?_⟩
      refine RH.one 3 (by kernel_rfl) ?_
      refine RS.st rfl (St.buildSlice rfl (bs1_co m)) (by decide) fun v20 w4 hR4 => ?_
      obtain ⟨g20, rfl, hg20, hB20, hx4⟩ := hR4
      have hz1_ := hS.size
      have hS := hS.thenExt hx4
      have hO := hO.ext hx4
      have hya : ∀ y ∈ ys, CoOn w4 y ∧ ∀ k, v18.ownBlock = some k → CoOff y k := fun y hy => ⟨(hya y hy).1.ext hx4, (hya y hy).2⟩
      refine ⟨hS, ?_⟩
      refine RH.one 4 (by kernel_rfl) ?_
      refine RS.st rfl (St.append (m := 1) Tryd.underlying22 Tryd.underlying22 ai_co rfl rfl hO (Fw.Src.one hB20 rfl) (one_coF (l := [m])) (by rw [flat_length coC_length, hyl]; omega)) (by decide) fun v21 w5 hR5 => ?_
      obtain ⟨hO5_, hc5, hf5⟩ := hR5
      have hS := hS.step hc5 (fun k h => by have := hfu k h; omega)
      have hA := own_snoc (m := m) hya (hm.ext (hE.thenExt hS)) (by simpa using hO5_) hc5
      refine ⟨hS, ?_⟩
      refine RH.take 5 (fun _ _ _ _ h => h) (by kernel_rfl) hS rfl (by kernel_rfl) (by kernel_rfl) (fun wq hq => Y.assign rfl) (by decide) ?_
      refine RH.done (by kernel_rfl) ?_
      have hx6 := hS; have hz6 := hx6.size; have hE := hE.thenExt hx6; have hl := hl.ext hx6; have hK := hK.ext hx6; have hs := hs.ext hx6; have hB4 := hB4.ext hx6
      refine ⟨(_, ys ++ [m]), (by repeat (first | exact Fr.le.nil | refine Fr.le.cons rfl ?_)), ?_, hA, hS⟩
      show csL (ys ++ [m]) = csL l ++ [m.c]
      rw [csL, List.map_append]; exact congrArg (· ++ [m.c]) hyc
    · skip
      refine RS.st rfl (St.buildSlice rfl (bs1_co m)) (by decide) fun v20 w7 hR7 => ?_
      obtain ⟨g20, rfl, hg20, hB20, hx7⟩ := hR7
      have hS := hS.thenExt hx7
      refine ⟨hS, ?_⟩
      refine RH.one 1 (by kernel_rfl) ?_
      refine RS.call rfl (fun _ _ h => by cases h) Tryd.func12 rfl rfl rfl (hown_any _ l _ (hl.ext hS) hsm hnl) (by decide) fun v18 w8 hR8 => ?_
      obtain ⟨ys, hyc, hya, hO, hfu, hx8⟩ := hR8
      have hz1_ := hS.size
      have hS := hS.thenExt hx8
      have hyl : ys.length = l.length := by have := congrArg List.length hyc; simpa using this
      have hB20 := hB20.ext hx8
      refine ⟨hS, ?_⟩
      refine RH.one 4 (by kernel_rfl) ?_
      refine RS.st rfl (St.append (m := 1) Tryd.underlying22 Tryd.underlying22 ai_co rfl rfl hO (Fw.Src.one hB20 rfl) (one_coF (l := [m])) (by rw [flat_length coC_length, hyl]; omega)) (by decide) fun v21 w9 hR9 => ?_
      obtain ⟨hO9_, hc9, hf9⟩ := hR9
      have hS := hS.step hc9 (fun k h => by have := hfu k h; omega)
      have hA := own_snoc (m := m) hya (hm.ext (hE.thenExt hS)) (by simpa using hO9_) hc9
      refine ⟨hS, ?_⟩
      refine RH.take 5 (fun _ _ _ _ h => h) (by kernel_rfl) hS rfl (by kernel_rfl) (by kernel_rfl) (fun wq hq => Y.assign rfl) (by decide) ?_
      refine RH.done (by kernel_rfl) ?_
      have hx10 := hS; have hz10 := hx10.size; have hE := hE.thenExt hx10; have hl := hl.ext hx10; have hK := hK.ext hx10; have hs := hs.ext hx10; have hB4 := hB4.ext hx10
      refine ⟨(_, ys ++ [m]), (by repeat (first | exact Fr.le.nil | refine Fr.le.cons rfl ?_)), ?_, hA, hS⟩
      show csL (ys ++ [m]) = csL l ++ [m.c]
      rw [csL, List.map_append]; exact congrArg (· ++ [m.c]) hyc
  rintro u w11 hj11
  obtain ⟨v7, all⟩ := u
  obtain ⟨hcs, hA, hx11⟩ := hj11
  dsimp only at hcs hA
  have hz11 := hx11.size
  have hE := hE.thenExt hx11
  have hl := hl.ext hx11
  have hK := hK.ext hx11
  have hs := hs.ext hx11
  have hB4 := hB4.ext hx11
  refine CW.seq fun K2 hK2 => ?_
  refine CW.region ?_
  refine WL.val (Y.move rfl) (by decide) ?_
  refine WL.call Tryd.func13 rfl rfl rfl (hcheck_any _ all _ hA hK) (by simp) ?_; rintro v w12 ⟨rfl, hx12⟩; have hz12 := hx12.size; have hE := hE.thenExt hx12; have hl := hl.ext hx12; have hK := hK.ext hx12; have hs := hs.ext hx12; have hB4 := hB4.ext hx12
  refine WL.val (Y.move rfl) (by decide) ?_
  refine WL.val (Y.extract rfl rfl) (by decide) ?_
  refine WL.val (Y.extract rfl rfl) (by decide) ?_
  refine WL.val (Y.assign rfl) (by decide) ?_
  refine WL.val (Y.assign rfl) (by decide) ?_
  refine WL.nil ?_
  refine hK2 _ _ ?_; try clear hK2 K2
  refine CW.seq fun K3 hK3 => ?_
  refine CW.seq fun K4 hK4 => ?_
  refine CW.region ?_
  refine WL.val (Y.move rfl) (by decide) ?_
  refine WL.val (Y.neq rfl rfl) (by decide) ?_
  refine WL.nil ?_
  refine hK4 _ _ ?_; try clear hK4 K4
  first | refine CW.condD rfl (fun ht5 => ?_) (fun ht5 => ?_) | refine CW.condND rfl (fun ht5 => ?_) (fun ht5 => ?_) | refine CW.condN rfl (fun ht5 => ?_) (fun ht5 => ?_) | refine CW.cond rfl (fun ht5 => ?_) (fun ht5 => ?_)
  · -- then
    refine CW.seq fun K6 hK6 => ?_
    refine CW.region ?_
    refine WL.call Tryd.func10 rfl rfl rfl (halive_any _ hK) (by simp) ?_; rintro v w13 ⟨rfl, hx13⟩; have hz13 := hx13.size; have hE := hE.thenExt hx13; have hl := hl.ext hx13; have hK := hK.ext hx13; have hs := hs.ext hx13; have hB4 := hB4.ext hx13
    refine WL.val (Y.assign rfl) (by decide) ?_
    refine WL.nil ?_
    refine hK6 _ _ ?_; try clear hK6 K6
    refine CW.ret ⟨_, rfl, ?_⟩
    exact ⟨rfl, hE⟩
  refine CW.skip ?_
  refine hK3 _ _ ?_; try clear hK3 K3
  refine CW.seq fun K7 hK7 => ?_
  refine CW.region ?_
  refine WL.val (Y.move rfl) (by decide) ?_
  refine WL.val (Y.move rfl) (by decide) ?_
  refine WL.call Tryd.func7 rfl rfl rfl (pick_any _ _ l so _ hl hs (by omega) hK) (by simp) ?_; rintro v32 w14 hR14
  obtain ⟨hO14, hfu14, hx14⟩ := hR14
  have hi := hO14.sl digC_length (by decide)
  have hA := (hA.ext hx12).ext hx14
  skip; have hz14 := hx14.size; have hE := hE.thenExt hx14; have hl := hl.ext hx14; have hK := hK.ext hx14; have hs := hs.ext hx14; have hB4 := hB4.ext hx14
  refine WL.val (Y.assign rfl) (by decide) ?_
  refine WL.nil ?_
  refine hK7 _ _ ?_; try clear hK7 K7
  refine CW.seq fun K8 hK8 => ?_
  refine CW.region ?_
  refine WL.val (Y.move rfl) (by decide) ?_
  refine WL.val (Y.move rfl) (by decide) ?_
  refine WL.call Tryd.func11 rfl rfl rfl (htext_any _ _ l (pickL (csL l) so) _ hl hi hK) (by simp) ?_; rintro v w15 ⟨rfl, hx15⟩; have hz15 := hx15.size; have hE := hE.thenExt hx15; have hl := hl.ext hx15; have hK := hK.ext hx15; have hs := hs.ext hx15; have hB4 := hB4.ext hx15; have hA := hA.ext hx15; have hi := hi.ext hx15
  refine WL.val (Y.move rfl) (by decide) ?_
  refine WL.val (Y.extract rfl rfl) (by decide) ?_
  refine WL.val (Y.extract rfl rfl) (by decide) ?_
  refine WL.val (Y.assign rfl) (by decide) ?_
  refine WL.val (Y.assign rfl) (by decide) ?_
  refine WL.nil ?_
  refine hK8 _ _ ?_; try clear hK8 K8
  refine CW.seq fun K9 hK9 => ?_
  refine CW.region ?_
  refine WL.val (Y.move rfl) (by decide) ?_
  refine WL.val (Y.move rfl) (by decide) ?_
  refine WL.call Tryd.func11 rfl rfl rfl (htext_any _ _ all (pickL (csL l) so) _ hA hi hK) (by simp) ?_; rintro v w16 ⟨rfl, hx16⟩; have hz16 := hx16.size; have hE := hE.thenExt hx16; have hl := hl.ext hx16; have hK := hK.ext hx16; have hs := hs.ext hx16; have hB4 := hB4.ext hx16; have hA := hA.ext hx16; have hi := hi.ext hx16
  refine WL.val (Y.move rfl) (by decide) ?_
  refine WL.val (Y.extract rfl rfl) (by decide) ?_
  refine WL.val (Y.extract rfl rfl) (by decide) ?_
  refine WL.val (Y.assign rfl) (by decide) ?_
  refine WL.val (Y.assign rfl) (by decide) ?_
  refine WL.nil ?_
  refine hK9 _ _ ?_; try clear hK9 K9
  refine CW.seq fun K10 hK10 => ?_
  refine CW.region ?_
  refine WL.val (Y.move rfl) (by decide) ?_
  refine WL.call Tryd.func13 rfl rfl rfl (hcheck_any _ l _ hl hK) (by simp) ?_; rintro v w17 ⟨rfl, hx17⟩; have hz17 := hx17.size; have hE := hE.thenExt hx17; have hl := hl.ext hx17; have hK := hK.ext hx17; have hs := hs.ext hx17; have hB4 := hB4.ext hx17; have hA := hA.ext hx17; have hi := hi.ext hx17
  refine WL.val (Y.move rfl) (by decide) ?_
  refine WL.val (Y.extract rfl rfl) (by decide) ?_
  refine WL.val (Y.extract rfl rfl) (by decide) ?_
  refine WL.val (Y.assign rfl) (by decide) ?_
  refine WL.val (Y.assign rfl) (by decide) ?_
  refine WL.nil ?_
  refine hK10 _ _ ?_; try clear hK10 K10
  refine CW.seq fun K11 hK11 => ?_
  have h0_ : (rdH (csL l ++ [m.c])).2 = 0 := by rw [← hcs]; exact Decidable.not_not.1 (by assumption)
  have hst := stays h0_ (pickL (csL l) so)
  rw [← hcs] at hst
  refine CW.region ?_
  refine WL.val (Y.move rfl) (by decide) ?_
  refine WL.val (Y.eql rfl rfl) (by decide) ?_
  refine WL.val (Y.move rfl) (by decide) ?_
  refine WL.know (d := 52) (u := .bool true) rfl (by rw [hst.1]; rfl) ?_
  refine WL.gval rfl rfl (Y.move rfl) (by decide) ?_
  refine WL.gval rfl rfl (Y.move rfl) (by decide) ?_
  refine WL.gval rfl rfl (Y.eql rfl rfl) (by decide) ?_
  refine WL.gval rfl rfl (Y.move rfl) (by decide) ?_
  first | refine WL.casesD (d := 56) rfl (fun hg56 => ?_) (fun hg56 => ?_) | refine WL.casesND (d := 56) rfl (fun hg56 => ?_) (fun hg56 => ?_) | refine WL.cases (d := 56) rfl (fun hg56 => ?_) (fun hg56 => ?_)
  · -- t56 = T
    refine WL.gval rfl rfl (Y.move rfl) (by decide) ?_
    refine WL.gval rfl rfl (Y.move rfl) (by decide) ?_
    refine WL.gval rfl rfl (Y.eql_string rfl rfl) (by decide) ?_
    refine WL.gval rfl rfl (Y.pick rfl rfl) (by decide) ?_
    refine WL.gval rfl rfl (Y.move rfl) (by decide) ?_
    first | refine WL.casesD (d := 61) rfl (fun hg61 => ?_) (fun hg61 => ?_) | refine WL.casesND (d := 61) rfl (fun hg61 => ?_) (fun hg61 => ?_) | refine WL.cases (d := 61) rfl (fun hg61 => ?_) (fun hg61 => ?_)
    · -- t61 = T
      refine WL.goff rfl rfl (by decide) ?_
      refine WL.goff rfl rfl (by decide) ?_
      refine WL.gval rfl rfl (Y.pick rfl rfl) (by decide) ?_
      refine WL.val (Y.pick rfl rfl) (by decide) ?_
      refine WL.val (Y.move rfl) (by decide) ?_
      refine WL.gcall rfl rfl Tryd.func10 rfl rfl rfl (halive_any _ hK) (by decide) ?_; rintro v w18 ⟨rfl, hx18⟩; have hz18 := hx18.size; have hE := hE.thenExt hx18; have hl := hl.ext hx18; have hK := hK.ext hx18; have hs := hs.ext hx18; have hB4 := hB4.ext hx18; have hA := hA.ext hx18; have hi := hi.ext hx18
      refine WL.val (Y.pick rfl rfl) (by decide) ?_
      refine WL.val (Y.assign rfl) (by decide) ?_
      refine WL.nil ?_
      refine hK11 _ _ ?_; try clear hK11 K11
      refine CW.ret ⟨_, rfl, ?_⟩
      exact ⟨rfl, hE⟩
    · -- t61 = F
      refine WL.gval rfl rfl (Y.move rfl) (by decide) ?_
      refine WL.gval rfl rfl (Y.eql rfl rfl) (by decide) ?_
      refine WL.gval rfl rfl (Y.pick rfl rfl) (by decide) ?_
      refine WL.val (Y.pick rfl rfl) (by decide) ?_
      refine WL.val (Y.move rfl) (by decide) ?_
      first | refine WL.casesD (d := 66) rfl (fun hg66 => ?_) (fun hg66 => ?_) | refine WL.casesND (d := 66) rfl (fun hg66 => ?_) (fun hg66 => ?_) | refine WL.cases (d := 66) rfl (fun hg66 => ?_) (fun hg66 => ?_)
      · -- t66 = T
        refine WL.gcall rfl rfl Tryd.func10 rfl rfl rfl (halive_any _ hK) (by decide) ?_; rintro v w19 ⟨rfl, hx19⟩; have hz19 := hx19.size; have hE := hE.thenExt hx19; have hl := hl.ext hx19; have hK := hK.ext hx19; have hs := hs.ext hx19; have hB4 := hB4.ext hx19; have hA := hA.ext hx19; have hi := hi.ext hx19
        refine WL.val (Y.pick rfl rfl) (by decide) ?_
        refine WL.val (Y.assign rfl) (by decide) ?_
        refine WL.nil ?_
        refine hK11 _ _ ?_; try clear hK11 K11
        refine CW.ret ⟨_, rfl, ?_⟩
        exact ⟨rfl, hE⟩
      · -- t66 = F
        refine WL.goff rfl rfl (by decide) ?_
        refine WL.val (Y.pick rfl rfl) (by decide) ?_
        refine WL.val (Y.assign rfl) (by decide) ?_
        refine WL.nil ?_
        refine hK11 _ _ ?_; try clear hK11 K11
        refine CW.ret ⟨_, rfl, ?_⟩
        exfalso
        rcases hst.2 with ⟨h1_, h2_⟩ | h_
        · simp_all
        · simp_all
  · -- t56 = F
    refine WL.goff rfl rfl (by decide) ?_
    refine WL.goff rfl rfl (by decide) ?_
    refine WL.goff rfl rfl (by decide) ?_
    refine WL.gval rfl rfl (Y.pick rfl rfl) (by decide) ?_
    refine WL.gval rfl rfl (Y.move rfl) (by decide) ?_
    refine WL.gval rfl rfl (Y.move rfl) (by decide) ?_
    refine WL.gval rfl rfl (Y.eql rfl rfl) (by decide) ?_
    refine WL.gval rfl rfl (Y.pick rfl rfl) (by decide) ?_
    refine WL.val (Y.pick rfl rfl) (by decide) ?_
    refine WL.val (Y.move rfl) (by decide) ?_
    first | refine WL.casesD (d := 66) rfl (fun hg66 => ?_) (fun hg66 => ?_) | refine WL.casesND (d := 66) rfl (fun hg66 => ?_) (fun hg66 => ?_) | refine WL.cases (d := 66) rfl (fun hg66 => ?_) (fun hg66 => ?_)
    · -- t66 = T
      refine WL.gcall rfl rfl Tryd.func10 rfl rfl rfl (halive_any _ hK) (by decide) ?_; rintro v w20 ⟨rfl, hx20⟩; have hz20 := hx20.size; have hE := hE.thenExt hx20; have hl := hl.ext hx20; have hK := hK.ext hx20; have hs := hs.ext hx20; have hB4 := hB4.ext hx20; have hA := hA.ext hx20; have hi := hi.ext hx20
      refine WL.val (Y.pick rfl rfl) (by decide) ?_
      refine WL.val (Y.assign rfl) (by decide) ?_
      refine WL.nil ?_
      refine hK11 _ _ ?_; try clear hK11 K11
      refine CW.ret ⟨_, rfl, ?_⟩
      exact ⟨rfl, hE⟩
    · -- t66 = F
      refine WL.goff rfl rfl (by decide) ?_
      refine WL.val (Y.pick rfl rfl) (by decide) ?_
      refine WL.val (Y.assign rfl) (by decide) ?_
      refine WL.nil ?_
      refine hK11 _ _ ?_; try clear hK11 K11
      refine CW.ret ⟨_, rfl, ?_⟩
      exfalso
      rcases hst.2 with ⟨h1_, h2_⟩ | h_
      · simp_all
      · simp_all
end Go.Proofs.YtjbeooimhoilmaaDoor
