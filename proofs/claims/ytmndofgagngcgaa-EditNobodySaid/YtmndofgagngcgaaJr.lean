/- EditNobody, walked. No condition. -/
import Derived.Test.YtmndofgagngcgaaJq
set_option linter.unusedSimpArgs false
set_option linter.unusedVariables false
namespace Go.Proofs.Ytmndofgagngcgaa
open Go.RowKit Go.Fw Go.Fu Go.Pl
/-- A tree that nobody made. -/
def Unm (w : World) (u : Value) : Prop := u = .pointer none ∨ ∃ g, u = .pointer (some ⟨g, 0, none⟩) ∧ Blk w g TF zeroT
theorem Unm.ext {w w' : World} {u : Value} (h : Unm w u) (hx : Ext w w') : Unm w' u := by
  rcases h with h | ⟨g, h, hB⟩
  · exact .inl h
  · exact .inr ⟨g, h, hB.ext hx⟩
theorem uops_any (u : Value) (b : List UInt8) (w : World) (h : Unm w u) : Calls Try.prog 11 #[u, .string (bs b)] w (Ret fun v w' => v = .tuple #[.slice none 0 0, .int .i64 2] ∧ Ext w w') := by
  rcases h with rfl | ⟨g, rfl, hB⟩
  · exact uops_n b w
  · exact uops_z g b w hB
theorem ublame_any (u : Value) (w : World) (h : Unm w u) : Calls Try.prog 18 #[u] w (Ret fun v w' => v = .slice none 0 0 ∧ Ext w w') := by
  rcases h with rfl | ⟨g, rfl, hB⟩
  · exact ublame_n w
  · exact ublame_z g w hB
theorem sz0_fugueTree : (Try.prog.info? 23).map (·.size) = some 1 := by kernel_rfl

theorem nobody_any (b : List UInt8) (w : World) : Calls Try.prog 5 #[.string (bs b)] w (Ret fun v w' => v = .bool true ∧ Ext w w') := by
  refine calls_of_CW 36 [2] [(0, .string (bs b))] Try.func5 rfl rfl rfl (by simp) args1 ?_
  have hE : Ext w w := Chg.refl
  refine CW.seq fun K1 hK1 => ?_
  refine CW.region ?_
  refine WL.val (Y.assign rfl) (by decide) ?_
  refine WL.nil ?_
  refine hK1 _ _ ?_; try clear hK1 K1
  refine CW.seq fun K2 hK2 => ?_
  refine CW.seq fun K3 hK3 => ?_
  refine CW.region ?_
  refine WL.val (Y.build0 (build_fugueTree _)) (by decide) ?_
  refine WL.box rfl rfl (by decide) fun g8 w1 hx1 hg8 hB8 => ?_
  have hlt8 := hB8.lt; have hz1 := hx1.size
  have hM8 := hB8.mem; have hz1 := hx1.size; have hE := hE.thenExt hx1
  refine WL.st (St.buildSlice rfl (bs2_ptrT _ _)) (by decide) fun v9 w2 hR2 => ?_
  obtain ⟨gs, rfl, hgs, hBs, hx2⟩ := hR2
  have hz2 := hx2.size
  have hE := hE.thenExt hx2
  have hB8 := hB8.ext hx2
  refine WL.val (Y.len_slice Try.underlying47 rfl) (by decide) ?_
  refine WL.val (Y.move rfl) (by decide) ?_
  refine WL.nil ?_
  refine hK3 _ _ ?_; try clear hK3 K3
  refine CW.block ?_
  refine CW.loop (X := Nat) (fun x => [(0, .string (bs b)), (9, .slice (some ⟨gs, 0, none⟩) 2 2), (10, .int .i64 2), (11, .int .i64 (x : Int))]) (fun x w0 => x ≤ 2 ∧ Ext w2 w0) (fun x => 2 - x) 0 (by repeat (first | exact Fr.le.nil | refine Fr.le.cons rfl ?_)) ⟨Nat.zero_le _, Chg.refl⟩ ?_
  intro x w3 hl3
  obtain ⟨hx, hL⟩ := hl3
  have hE := hE.thenExt hL
  refine CW.seq fun K4 hK4 => ?_
  refine CW.region ?_
  refine WL.val (Y.lss rfl rfl) (by decide) ?_
  refine WL.nil ?_
  refine hK4 _ _ ?_; try clear hK4 K4
  refine CW.seq fun K5 hK5 => ?_
  first | refine CW.condD rfl (fun ht6 => ?_) (fun ht6 => ?_) | refine CW.condND rfl (fun ht6 => ?_) (fun ht6 => ?_) | refine CW.condN rfl (fun ht6 => ?_) (fun ht6 => ?_) | refine CW.cond rfl (fun ht6 => ?_) (fun ht6 => ?_)
  · -- then
    refine CW.skip ?_
    refine hK5 _ _ ?_; try clear hK5 K5
    refine CW.seq fun K7 hK7 => ?_
    obtain ⟨u, hcu, hU⟩ : ∃ u, w3.cell? (Addr.add ⟨gs, 0, none⟩ (x * 1)) = some u ∧ Unm w3 u := by
      obtain rfl | rfl : x = 0 ∨ x = 1 := by omega
      · exact ⟨.pointer none, (hBs.ext hL).mem.cell 0 rfl, .inl rfl⟩
      · exact ⟨.pointer (some ⟨g8, 0, none⟩), (hBs.ext hL).mem.cell 1 rfl, .inr ⟨g8, rfl, hB8.ext hL⟩⟩
    refine CW.block ?_
    refine CW.seq fun K8 hK8 => ?_
    refine CW.region ?_
    refine WL.val (Y.indexAddrN Try.underlying47 rfl rfl sz0_fugueTree (by omega)) (by decide) ?_
    refine WL.val (Y.load1 Try.underlying23 rfl hcu rfl) (by decide) ?_
    refine WL.val (Y.assign rfl) (by decide) ?_
    refine WL.nil ?_
    refine hK8 _ _ ?_; try clear hK8 K8
    refine CW.seq fun K9 hK9 => ?_
    refine CW.region ?_
    refine WL.val (Y.move rfl) (by decide) ?_
    refine WL.val (Y.move rfl) (by decide) ?_
    refine WL.call Try.func11 rfl rfl rfl (uops_any u b _ hU) (by simp) ?_; rintro v18 w4 hR4
    obtain ⟨rfl, hx4⟩ := hR4
    have hz4 := hx4.size
    have hE := hE.thenExt hx4
    refine WL.val (Y.move rfl) (by decide) ?_
    refine WL.val (Y.extract rfl rfl) (by decide) ?_
    refine WL.val (Y.extract rfl rfl) (by decide) ?_
    refine WL.val (Y.assign rfl) (by decide) ?_
    refine WL.val (Y.assign rfl) (by decide) ?_
    refine WL.nil ?_
    refine hK9 _ _ ?_; try clear hK9 K9
    refine CW.seq_testE 33 (False) ?_ ?_
    · refine CW.region ?_
      refine WL.val (Y.move rfl) (by decide) ?_
      refine WL.val (Y.len_slice Try.underlying27 rfl) (by decide) ?_
      refine WL.val (Y.neq rfl rfl) (by decide) ?_
      refine WL.val (Y.move rfl) (by decide) ?_
      first | refine WL.casesD (d := 24) rfl (fun hg24 => ?_) (fun hg24 => ?_) | refine WL.casesND (d := 24) rfl (fun hg24 => ?_) (fun hg24 => ?_) | refine WL.cases (d := 24) rfl (fun hg24 => ?_) (fun hg24 => ?_)
      · -- t24 = T
        refine WL.goff rfl rfl (by decide) ?_
        refine WL.goff rfl rfl (by decide) ?_
        refine WL.val (Y.pick rfl rfl) (by decide) ?_
        refine WL.val (Y.move rfl) (by decide) ?_
        refine WL.goff rfl rfl (by decide) ?_
        refine WL.goff rfl rfl (by decide) ?_
        refine WL.goff rfl rfl (by decide) ?_
        refine WL.goff rfl rfl (by decide) ?_
        refine WL.val (Y.pick rfl rfl) (by decide) ?_
        refine WL.nil ⟨⟨_, rfl, ?_⟩, (by first | exact Chg.refl | exact hx5), (by repeat (first | exact Fr.le.refl | refine Fr.le.push rfl ?_))⟩
        first | (simp only [*, Int.natCast_inj, Bool.not_eq_true', decide_eq_false_iff_not, decide_eq_true_eq, not_true_eq_false, not_false_eq_true, true_and, false_and, and_true, and_false, false_or, or_false, true_or, or_true, iff_true, true_iff, iff_false, false_iff]; done) | (simp_all; done) | (refine congrArg Value.bool (Bool.eq_iff_iff.2 ?_); simp_all; done) | (simp_all; omega)
      · -- t24 = F
        refine WL.gval rfl rfl (Y.move rfl) (by decide) ?_
        refine WL.gval rfl rfl (Y.neq rfl rfl) (by decide) ?_
        refine WL.val (Y.pick rfl rfl) (by decide) ?_
        refine WL.val (Y.move rfl) (by decide) ?_
        first | refine WL.casesD (d := 28) rfl (fun hg28 => ?_) (fun hg28 => ?_) | refine WL.casesND (d := 28) rfl (fun hg28 => ?_) (fun hg28 => ?_) | refine WL.cases (d := 28) rfl (fun hg28 => ?_) (fun hg28 => ?_)
        · -- t28 = T
          refine WL.goff rfl rfl (by decide) ?_
          refine WL.goff rfl rfl (by decide) ?_
          refine WL.goff rfl rfl (by decide) ?_
          refine WL.goff rfl rfl (by decide) ?_
          refine WL.val (Y.pick rfl rfl) (by decide) ?_
          refine WL.nil ⟨⟨_, rfl, ?_⟩, (by first | exact Chg.refl | exact hx5), (by repeat (first | exact Fr.le.refl | refine Fr.le.push rfl ?_))⟩
          first | (simp only [*, Int.natCast_inj, Bool.not_eq_true', decide_eq_false_iff_not, decide_eq_true_eq, not_true_eq_false, not_false_eq_true, true_and, false_and, and_true, and_false, false_or, or_false, true_or, or_true, iff_true, true_iff, iff_false, false_iff]; done) | (simp_all; done) | (refine congrArg Value.bool (Bool.eq_iff_iff.2 ?_); simp_all; done) | (simp_all; omega)
        · -- t28 = F
          refine WL.gval rfl rfl (Y.move rfl) (by decide) ?_
          refine WL.gcall rfl rfl Try.func18 rfl rfl rfl (ublame_any u _ (hU.ext hx4)) (by decide) ?_; rintro v30 w5 hR5
          obtain ⟨rfl, hx5⟩ := hR5
          refine WL.gval rfl rfl (Y.len_slice Try.underlying38 rfl) (by decide) ?_
          refine WL.gval rfl rfl (Y.neq rfl rfl) (by decide) ?_
          refine WL.val (Y.pick rfl rfl) (by decide) ?_
          refine WL.nil ⟨⟨_, rfl, ?_⟩, (by first | exact Chg.refl | exact hx5), (by repeat (first | exact Fr.le.refl | refine Fr.le.push rfl ?_))⟩
          first | (simp only [*, Int.natCast_inj, Bool.not_eq_true', decide_eq_false_iff_not, decide_eq_true_eq, not_true_eq_false, not_false_eq_true, true_and, false_and, and_true, and_false, false_or, or_false, true_or, or_true, iff_true, true_iff, iff_false, false_iff]; done) | (simp_all; done) | (refine congrArg Value.bool (Bool.eq_iff_iff.2 ?_); simp_all; done) | (simp_all; omega)
    intro w6 hx6; have hz6 := hx6.size; have hE := hE.thenExt hx6
    first | refine CW.condD rfl (fun ht10 => ?_) (fun ht10 => ?_) | refine CW.condND rfl (fun ht10 => ?_) (fun ht10 => ?_) | refine CW.condN rfl (fun ht10 => ?_) (fun ht10 => ?_) | refine CW.cond rfl (fun ht10 => ?_) (fun ht10 => ?_)
    · -- then
      refine CW.seq fun K11 hK11 => ?_
      refine CW.region ?_
      refine WL.val (Y.assign rfl) (by decide) ?_
      refine WL.nil ?_
      refine hK11 _ _ ?_; try clear hK11 K11
      refine CW.ret ⟨_, rfl, ?_⟩
      exact False.elim (by assumption)
 
    refine CW.skip ?_
    refine hK7 _ _ ?_; try clear hK7 K7
    refine CW.region ?_
    refine WL.val (Y.add rfl rfl ⟨by omega, by omega⟩) (by decide) ?_
    refine WL.val (Y.move rfl) (by decide) ?_
    refine WL.nil ?_
    exact ⟨x + 1, (by show 2 - (x + 1) < 2 - x; omega), (by repeat (first | exact Fr.le.nil | refine Fr.le.cons rfl ?_)), (by show x + 1 ≤ 2; omega), (hL.thenExt hx4).thenExt hx6⟩
  refine CW.exit ?_
  refine hK2 _ _ ?_; try clear hK2 K2
  refine CW.seq fun K12 hK12 => ?_
  refine CW.region ?_
  refine WL.call Try.func16 rfl rfl rfl (ealive_any _) (by simp) ?_; rintro v w7 ⟨rfl, hx7⟩; have hz7 := hx7.size; have hE := hE.thenExt hx7
  refine WL.val (Y.assign rfl) (by decide) ?_
  refine WL.nil ?_
  refine hK12 _ _ ?_; try clear hK12 K12
  refine CW.ret ⟨_, rfl, ?_⟩
  exact ⟨rfl, hE⟩
end Go.Proofs.Ytmndofgagngcgaa
