/- EditWhole, walked. No condition. -/
import Derived.Test.YtmndofgagngcgaaJn
set_option linter.unusedSimpArgs false
set_option linter.unusedVariables false
namespace Go.Fu
open Go.Fw Go.Pl
theorem refT_is {e : List El} {k i : Nat} (h : (seenE e)[k]? = some i) : refT e k = (nm e i, true) := by
  have hl := (List.getElem?_eq_some_iff.1 h).1
  rw [refT, if_neg (by omega)]
  simp [h]
theorem spread_succ {l : List RuD} {i : Nat} {r : RuD} (h : l[i]? = some r) : spread (l.take (i + 1)) = spread (l.take i) ++ List.replicate r.n r.c := by
  rw [Go.Pl.take_succ h, spread, spread, List.flatMap_append]; simp
theorem spread_at {l : List RuD} {i k : Nat} {r : RuD} (h : l[i]? = some r) (hk : k < r.n) : (spread l)[(spread (l.take i)).length + k]? = some r.c := by
  have e : spread l = spread (l.take (i + 1)) ++ spread (l.drop (i + 1)) := by
    rw [spread, spread, spread, ← List.flatMap_append, List.take_append_drop]
  rw [e, spread_succ h, List.append_assoc, List.getElem?_append_right (by omega), Nat.add_sub_cancel_left, List.getElem?_append_left (by simpa using hk)]
  simp [hk]
theorem spread_take_le (l : List RuD) (i : Nat) : (spread (l.take i)).length ≤ (spread l).length := by
  have e : spread l = spread (l.take i) ++ spread (l.drop i) := by
    rw [spread, spread, spread, ← List.flatMap_append, List.take_append_drop]
  rw [e, List.length_append]; omega
end Go.Fu
namespace Go.Proofs.Ytmndofgagngcgaa
open Go.RowKit Go.Fw Go.Fu Go.Pl
theorem info_run : ∃ i : TypeInfo, Try.prog.info? TRu = some i ∧ i.zero = some (.agg (runC ⟨Dig.zero, 0⟩).toArray) := by
  have h : (Try.prog.info? TRu).map (fun i => i.zero) = some (some (.agg (runC ⟨Dig.zero, 0⟩).toArray)) := by kernel_rfl
  obtain ⟨i, hi, h⟩ := Option.map_eq_some_iff.1 h
  exact ⟨i, hi, h⟩

set_option maxRecDepth 100000 in
set_option maxHeartbeats 2000000 in
theorem whole_any (u : Value) (l : List CmV) (w : World) (hl : Cms w u l) : Calls Try.prog 8 #[u] w (Ret fun v w' => v = .bool true ∧ Ext w w') := by
  obtain ⟨A, m, c, rfl, hm, hmc, hcm, _⟩ := _root_.id hl.sl
  unfold maxLen at hcm
  obtain ⟨ir, hir, hzr⟩ := info_run
  refine calls_of_CW 81 [2] [(0, .slice A m c)] Try.func8 rfl rfl rfl (by simp) args1 ?_
  have hE : Ext w w := Chg.refl
  refine CW.seq fun K1 hK1 => ?_
  refine CW.region ?_
  refine WL.val (Y.assign rfl) (by decide) ?_
  refine WL.nil ?_
  refine hK1 _ _ ?_; try clear hK1 K1
  refine CW.seq fun K2 hK2 => ?_
  refine CW.region ?_
  refine WL.val (Y.move rfl) (by decide) ?_
  refine WL.call Try.func10 rfl rfl rfl (grown_any _ l _ (hl.ext hE)) (by simp) ?_; rintro v15 w1 hR1
  obtain ⟨g, rb, ra, ns, gr, rs, av, ev_, L, T, rfl, hA⟩ := hR1
  have hz1 := hA.ext.size
  have hE := hE.thenExt hA.ext
  have hT1 := hA.ft
  have hfe := hA.fe
  have hok := hA.ok
  have hG : Fu.Good (Fw.els ns) := by rw [hfe]; exact hok.good
  have hel : (Fw.els ns).length = ns.length := List.length_map _
  have hn5 : ns.length ≤ 400001 := by rw [← hel, hfe]; exact hok.few
  have hsl : (seenE (Fw.els ns)).length = liveN ns := hG.seen_length
  have hlv : liveN ns ≤ 400001 := by
    have h1 := List.countP_le_length (p := fun x : El => !x.gone) (l := Fw.els ns)
    rw [hel] at h1; exact Nat.le_trans h1 hn5
  have hE1 := hE
  refine WL.val (Y.move rfl) (by decide) ?_
  refine WL.val (Y.extract rfl rfl) (by decide) ?_
  refine WL.val (Y.extract rfl rfl) (by decide) ?_
  refine WL.val (Y.extract rfl rfl) (by decide) ?_
  refine WL.val (Y.assign rfl) (by decide) ?_
  refine WL.val (Y.assign rfl) (by decide) ?_
  refine WL.val (Y.assign rfl) (by decide) ?_
  refine WL.nil ?_
  refine hK2 _ _ ?_; try clear hK2 K2
  refine CW.seq fun K3 hK3 => ?_
  refine CW.seq fun K4 hK4 => ?_
  refine CW.region ?_
  refine WL.val (Y.move rfl) (by decide) ?_
  refine WL.val (Y.not rfl) (by decide) ?_
  refine WL.nil ?_
  refine hK4 _ _ ?_; try clear hK4 K4
  first | refine CW.condD rfl (fun ht5 => ?_) (fun ht5 => ?_) | refine CW.condND rfl (fun ht5 => ?_) (fun ht5 => ?_) | refine CW.condN rfl (fun ht5 => ?_) (fun ht5 => ?_) | refine CW.cond rfl (fun ht5 => ?_) (fun ht5 => ?_)
  · -- then
    refine CW.seq fun K6 hK6 => ?_
    refine CW.region ?_
    refine WL.val (Y.assign rfl) (by decide) ?_
    refine WL.nil ?_
    refine hK6 _ _ ?_; try clear hK6 K6
    refine CW.ret ⟨_, rfl, ?_⟩
    first | exact absurd rfl (by assumption) | (simp_all; done)
  refine CW.skip ?_
  refine hK3 _ _ ?_; try clear hK3 K3
  refine CW.seq fun K7 hK7 => ?_
  refine CW.region ?_
  refine WL.val (Y.move rfl) (by decide) ?_
  refine WL.call Try.func18 rfl rfl rfl (fblame_any g rb ra _ ns _ hT1 hG hn5) (by simp) ?_; rintro v22 w2 hR2
  obtain ⟨hOb, hfb, hx2⟩ := hR2
  have hz2 := hx2.size
  have hE2 := hE.thenExt hx2
  have hE := hE2
  obtain ⟨R, hR⟩ : ∃ R, R = blameE (Fw.els ns) := ⟨_, rfl⟩
  rw [← hR] at hOb
  have hRk := runs_ok (Fw.els ns)
  rw [← hR] at hRk
  obtain ⟨RA, rm, rc, rfl⟩ := hOb.lens
  have hrm := (run_cell hOb).1
  have hal : (spread R).length = liveN ns := by rw [hRk.all, List.length_map]; exact hsl
  have hrmb : R.length ≤ liveN ns := by have := spread_len hRk.pos; omega
  refine WL.val (Y.assign rfl) (by decide) ?_
  refine WL.nil ?_
  refine hK7 _ _ ?_; try clear hK7 K7
  refine CW.seq fun K8 hK8 => ?_
  refine CW.region ?_
  refine WL.val (Y.assign rfl) (by decide) ?_
  refine WL.nil ?_
  refine hK8 _ _ ?_; try clear hK8 K8
  refine CW.seq fun K9 hK9 => ?_
  refine CW.seq fun K10 hK10 => ?_
  refine CW.region ?_
  refine WL.val (Y.move rfl) (by decide) ?_
  refine WL.val (Y.len_slice Try.underlying38 rfl) (by decide) ?_
  refine WL.val (Y.move rfl) (by decide) ?_
  refine WL.nil ?_
  refine hK10 _ _ ?_; try clear hK10 K10
  refine CW.block ?_
  refine CW.loop (X := Nat) (fun x => [(3, .pointer (some ⟨g, 0, none⟩)), (6, .slice RA rm rc), (7, .int .i64 ((spread (R.take x)).length : Int)), (23, .slice RA rm rc), (24, .int .i64 (rm : Int)), (25, .int .i64 (x : Int))]) (fun x w0 => x ≤ rm ∧ Ext w2 w0) (fun x => rm - x) 0 (by repeat (first | exact Fr.le.nil | refine Fr.le.cons rfl ?_)) ⟨Nat.zero_le _, Chg.refl⟩ ?_
  intro x w3 hl3
  obtain ⟨i, hix⟩ : ∃ i, i = x := ⟨_, rfl⟩
  subst hix
  obtain ⟨hx, hL⟩ := hl3
  have hzL := hL.size
  have hE := hE2.thenExt hL
  refine CW.seq fun K11 hK11 => ?_
  refine CW.region ?_
  refine WL.val (Y.lss rfl rfl) (by decide) ?_
  refine WL.nil ?_
  refine hK11 _ _ ?_; try clear hK11 K11
  refine CW.seq fun K12 hK12 => ?_
  first | refine CW.condD rfl (fun ht13 => ?_) (fun ht13 => ?_) | refine CW.condND rfl (fun ht13 => ?_) (fun ht13 => ?_) | refine CW.condN rfl (fun ht13 => ?_) (fun ht13 => ?_) | refine CW.cond rfl (fun ht13 => ?_) (fun ht13 => ?_)
  · -- then
    refine CW.skip ?_
    refine hK12 _ _ ?_; try clear hK12 K12
    refine CW.seq fun K14 hK14 => ?_
    obtain ⟨r, hr⟩ : ∃ r, R[i]? = some r := ⟨_, List.getElem?_eq_getElem (by omega)⟩
    obtain ⟨ra2, hra, hmr⟩ := ((hOb.ext hL).sl runC_length (by decide)).get hr
    subst hra
    have hpos : ¬ (r.n : Int) < 1 := by have := hRk.pos r (List.mem_of_getElem? hr); omega
    have hsp := congrArg List.length (spread_succ hr)
    rw [List.length_append, List.length_replicate] at hsp
    have hsl2 := spread_take_le R (i + 1)
    have hsl3 := spread_take_le R i
    refine CW.block ?_
    refine CW.seq fun K15 hK15 => ?_
    refine CW.region ?_
    refine WL.val (Y.move rfl) (by decide) ?_
    refine WL.val (Y.indexAddrN Try.underlying38 rfl rfl sz0_apiRun (by omega)) (by decide) ?_
    refine WL.val (Y.load Try.underlying65 rfl hmr (sz_apiRun _) rfl) (by decide) ?_
    refine WL.alloc (hir) (hzr) rfl (by decide) fun g9 w4 hx4 hg9 hB9 => ?_
    have hlt9 := hB9.lt; have hz4 := hx4.size
    have hM9 := hB9.mem; have hz4 := hx4.size; have hE := hE.thenExt hx4
    refine WL.val (Y.assign rfl) (by decide) ?_
    refine WL.store (g := g9) (pre := []) (old := runC ⟨Dig.zero, 0⟩) (post := []) (new := runC r) rfl rfl rfl rfl (sz_apiRun _) (by simpa using hB9) (by simp only [runC_length]) (one_runC) (fun w5 hc5 hB5_ => ?_)
    have hz5 := hc5.size; have hE := hE.step hc5 (fun k h => by omega)
    have hB9 : Blk w5 g9 TRu (runC r) := by simpa using hB5_
    have hL5 : Ext w3 w5 := (Ext.chg hx4 (S := fun _ => False)).step hc5 (fun k h => by have h : k = g9 := h; omega)
    refine WL.nil ?_
    refine hK15 _ _ ?_; try clear hK15 K15
    refine CW.seq fun K16 hK16 => ?_
    refine CW.seq_testE 47 (False) ?_ ?_
    · refine CW.quiet (fun wq => Ext w5 wq) (by kernel_rfl) (by kernel_rfl) Chg.drew ?_
      refine QL.val (fun wq hq => Y.fieldAddr fo_apiRun1 rfl) (by decide) ?_
      refine QL.val (fun wq hq => Y.load1 Try.underlying3 rfl (hB9.ext hq).mem.apiRun1 rfl) (by decide) ?_
      refine QL.val (fun wq hq => Y.lss rfl rfl) (by decide) ?_
      refine QL.val (fun wq hq => Y.move rfl) (by decide) ?_
      first | refine QL.casesD (d := 33) rfl (fun hg33 => ?_) (fun hg33 => ?_) | refine QL.casesND (d := 33) rfl (fun hg33 => ?_) (fun hg33 => ?_) | refine QL.cases (d := 33) rfl (fun hg33 => ?_) (fun hg33 => ?_)
      · -- t33 = T
        refine QL.goff rfl rfl (by decide) ?_
        refine QL.goff rfl rfl (by decide) ?_
        refine QL.goff rfl rfl (by decide) ?_
        refine QL.goffU rfl rfl (by decide) ?_
        refine QL.goffU rfl rfl (by decide) ?_
        refine QL.goffU rfl rfl (by decide) ?_
        refine QL.goffU rfl rfl (by decide) ?_
        refine QL.goffU rfl rfl (by decide) ?_
        refine QL.goffU rfl rfl (by decide) ?_
        refine QL.goffU rfl rfl (by decide) ?_
        refine QL.goffU rfl rfl (by decide) ?_
        refine QL.goffU rfl rfl (by decide) ?_
        refine QL.goff rfl rfl (by decide) ?_
        refine QL.val (fun wq hq => Y.pick rfl rfl) (by decide) ?_
        refine QL.nil fun wq hq => ⟨⟨_, rfl, ?_⟩, hq, (by repeat (first | exact Fr.le.refl | refine Fr.le.push rfl ?_))⟩
        first | (simp only [*, Int.natCast_inj, Bool.not_eq_true', decide_eq_false_iff_not, decide_eq_true_eq, not_true_eq_false, not_false_eq_true, true_and, false_and, and_true, and_false, false_or, or_false, true_or, or_true, iff_true, true_iff, iff_false, false_iff]; done) | (simp_all; done) | (refine congrArg Value.bool (Bool.eq_iff_iff.2 ?_); simp_all; done) | (simp_all; omega)
      · -- t33 = F
        refine QL.gval rfl rfl (fun wq hq => Y.move rfl) (by decide) ?_
        refine QL.gval rfl rfl (fun wq hq => Y.gtr rfl rfl) (by decide) ?_
        refine QL.gval rfl rfl (fun wq hq => Y.move rfl) (by decide) ?_
        first | refine QL.casesD (d := 36) rfl (fun hg36 => ?_) (fun hg36 => ?_) | refine QL.casesND (d := 36) rfl (fun hg36 => ?_) (fun hg36 => ?_) | refine QL.cases (d := 36) rfl (fun hg36 => ?_) (fun hg36 => ?_)
        · -- t36 = T
          obtain ⟨p, hp⟩ : ∃ p, R[i - 1]? = some p := ⟨_, List.getElem?_eq_getElem (by omega)⟩
          obtain ⟨ra3, hra3, hmp⟩ := ((hOb.ext hL).sl runC_length (by decide)).get hp
          cases hra3
          have hne : ¬ p.c = r.c := hRk.ne (i - 1) p r hp (by rw [Nat.sub_add_cancel (by omega)]; exact hr)
          refine QL.gval rfl rfl (fun wq hq => Y.move rfl) (by decide) ?_
          refine QL.gval rfl rfl (fun wq hq => Y.move rfl) (by decide) ?_
          refine QL.gval rfl rfl (fun wq hq => Y.subC (c := i - 1) rfl rfl (by omega) (by omega)) (by decide) ?_
          refine QL.gval rfl rfl (fun wq hq => Y.indexAddrN Try.underlying38 rfl rfl sz0_apiRun (by omega)) (by decide) ?_
          refine QL.gval rfl rfl (fun wq hq => Y.fieldAddr fo_apiRun0 rfl) (by decide) ?_
          refine QL.gval rfl rfl (fun wq hq => Y.load Try.underlying50 rfl ((hmp.ext (hL5.thenExt hq)).apiRun0) (sz_apiDigest _) rfl) (by decide) ?_
          refine QL.gval rfl rfl (fun wq hq => Y.fieldAddr fo_apiRun0 rfl) (by decide) ?_
          refine QL.gval rfl rfl (fun wq hq => Y.load Try.underlying50 rfl (hB9.ext hq).mem.apiRun0 (sz_apiDigest _) rfl) (by decide) ?_
          refine QL.gval rfl rfl (fun wq hq => Y.eql_apiDigest rfl rfl) (by decide) ?_
          refine QL.gval rfl rfl (fun wq hq => Y.pick rfl rfl) (by decide) ?_
          refine QL.val (fun wq hq => Y.pick rfl rfl) (by decide) ?_
          refine QL.nil fun wq hq => ⟨⟨_, rfl, ?_⟩, hq, (by repeat (first | exact Fr.le.refl | refine Fr.le.push rfl ?_))⟩
          first | (simp only [*, Int.natCast_inj, Bool.not_eq_true', decide_eq_false_iff_not, decide_eq_true_eq, not_true_eq_false, not_false_eq_true, true_and, false_and, and_true, and_false, false_or, or_false, true_or, or_true, iff_true, true_iff, iff_false, false_iff]; done) | (simp_all; done) | (refine congrArg Value.bool (Bool.eq_iff_iff.2 ?_); simp_all; done) | (simp_all; omega)
        · -- t36 = F
          refine QL.goff rfl rfl (by decide) ?_
          refine QL.goff rfl rfl (by decide) ?_
          refine QL.goff rfl rfl (by decide) ?_
          refine QL.goff rfl rfl (by decide) ?_
          refine QL.goff rfl rfl (by decide) ?_
          refine QL.goff rfl rfl (by decide) ?_
          refine QL.goff rfl rfl (by decide) ?_
          refine QL.goff rfl rfl (by decide) ?_
          refine QL.goff rfl rfl (by decide) ?_
          refine QL.gval rfl rfl (fun wq hq => Y.pick rfl rfl) (by decide) ?_
          refine QL.val (fun wq hq => Y.pick rfl rfl) (by decide) ?_
          refine QL.nil fun wq hq => ⟨⟨_, rfl, ?_⟩, hq, (by repeat (first | exact Fr.le.refl | refine Fr.le.push rfl ?_))⟩
          first | (simp only [*, Int.natCast_inj, Bool.not_eq_true', decide_eq_false_iff_not, decide_eq_true_eq, not_true_eq_false, not_false_eq_true, true_and, false_and, and_true, and_false, false_or, or_false, true_or, or_true, iff_true, true_iff, iff_false, false_iff]; done) | (simp_all; done) | (refine congrArg Value.bool (Bool.eq_iff_iff.2 ?_); simp_all; done) | (simp_all; omega)
    intro w6 hx6; have hz6 := hx6.size; have hE := hE.thenExt hx6; have hB9 := hB9.ext hx6
    first | refine CW.condD rfl (fun ht17 => ?_) (fun ht17 => ?_) | refine CW.condND rfl (fun ht17 => ?_) (fun ht17 => ?_) | refine CW.condN rfl (fun ht17 => ?_) (fun ht17 => ?_) | refine CW.cond rfl (fun ht17 => ?_) (fun ht17 => ?_)
    · -- then
      refine CW.seq fun K18 hK18 => ?_
      refine CW.region ?_
      refine WL.val (Y.assign rfl) (by decide) ?_
      refine WL.nil ?_
      refine hK18 _ _ ?_; try clear hK18 K18
      refine CW.ret ⟨_, rfl, ?_⟩
      exact False.elim (by assumption)
 
    refine CW.skip ?_
    refine hK16 _ _ ?_; try clear hK16 K16
    refine CW.seq fun K19 hK19 => ?_
    refine CW.region ?_
    refine WL.val (Y.assign rfl) (by decide) ?_
    refine WL.nil ?_
    refine hK19 _ _ ?_; try clear hK19 K19
    refine CW.block ?_
    refine CW.loop (X := Nat) (fun x => [(3, .pointer (some ⟨g, 0, none⟩)), (6, .slice (some ra2) rm rc), (7, .int .i64 (((spread (R.take i)).length + x : Nat) : Int)), (9, .pointer (some ⟨g9, 0, none⟩)), (10, .int .i64 (x : Int)), (23, .slice (some ra2) rm rc), (24, .int .i64 (rm : Int)), (25, .int .i64 (i : Int))]) (fun x w0 => x ≤ r.n ∧ Ext w6 w0) (fun x => r.n - x) 0 (by repeat (first | exact Fr.le.nil | refine Fr.le.cons rfl ?_)) ⟨Nat.zero_le _, Chg.refl⟩ ?_
    intro x w7 hl7
    obtain ⟨k, hkx⟩ : ∃ k, k = x := ⟨_, rfl⟩
    subst hkx
    obtain ⟨hk, hL7⟩ := hl7
    have hz7 := hL7.size
    have hE6 := hE
    have hE := hE.thenExt hL7
    have hB9 := hB9.ext hL7
    refine CW.seq fun K20 hK20 => ?_
    refine CW.seq fun K21 hK21 => ?_
    refine CW.region ?_
    refine WL.val (Y.move rfl) (by decide) ?_
    refine WL.val (Y.fieldAddr fo_apiRun1 rfl) (by decide) ?_
    refine WL.val (Y.load1 Try.underlying3 rfl hB9.mem.apiRun1 rfl) (by decide) ?_
    refine WL.val (Y.lss rfl rfl) (by decide) ?_
    refine WL.nil ?_
    refine hK21 _ _ ?_; try clear hK21 K21
    first | refine CW.condD rfl (fun ht22 => ?_) (fun ht22 => ?_) | refine CW.condND rfl (fun ht22 => ?_) (fun ht22 => ?_) | refine CW.condN rfl (fun ht22 => ?_) (fun ht22 => ?_) | refine CW.cond rfl (fun ht22 => ?_) (fun ht22 => ?_)
    · -- then
      refine CW.skip ?_
      refine hK20 _ _ ?_; try clear hK20 K20
      refine CW.seq fun K23 hK23 => ?_
      obtain ⟨q, hq⟩ : ∃ q, (seenE (Fw.els ns))[(spread (R.take i)).length + k]? = some q := ⟨_, List.getElem?_eq_getElem (by omega)⟩
      have hrt : refT (Fw.els ns) (((spread (R.take i)).length + k : Nat) : Int) = (nm (Fw.els ns) q, true) := refT_is hq
      have hcm : (nm (Fw.els ns) q).c = r.c := by
        have h1 := spread_at hr (k := k) (by omega)
        rw [hRk.all, List.getElem?_map, hq] at h1
        exact Option.some.inj h1
      refine CW.block ?_
      refine CW.seq fun K24 hK24 => ?_
      refine CW.region ?_
      refine WL.val (Y.move rfl) (by decide) ?_
      refine WL.val (Y.move rfl) (by decide) ?_
      refine WL.call Try.func24 rfl rfl rfl (fref_any g rb ra _ ns (((spread (R.take i)).length + k : Nat) : Int) _ (hT1.ext (((hx2.thenExt hL).thenExt hL5).thenExt (hx6.thenExt hL7))) hG hn5) (by simp) ?_; rintro v w8 ⟨rfl, hx8⟩; have hz8 := hx8.size; have hE := hE.thenExt hx8; have hB9 := hB9.ext hx8
      refine WL.val (Y.move rfl) (by decide) ?_
      rw [hrt]
      refine WL.val (Y.extract rfl rfl) (by decide) ?_
      refine WL.val (Y.extract rfl rfl) (by decide) ?_
      refine as_apiRef rfl (by simp) (by decide) fun g11 w9 hx9 hg11 hB11 => ?_
      have hlt11 := hB11.lt; have hz9 := hx9.size
      have hM11 := hB11.mem; have hz9 := hx9.size; have hE := hE.thenExt hx9; have hB9 := hB9.ext hx9
      refine WL.val (Y.assign rfl) (by decide) ?_
      refine WL.nil ?_
      refine hK24 _ _ ?_; try clear hK24 K24
      refine CW.seq fun K25 hK25 => ?_
      refine CW.seq_test 68 (False) ?_ ?_
      · refine CW.region ?_
        refine WL.val (Y.move rfl) (by decide) ?_
        refine WL.val (Y.not rfl) (by decide) ?_
        refine WL.val (Y.move rfl) (by decide) ?_
        first | refine WL.casesD (d := 62) rfl (fun hg62 => ?_) (fun hg62 => ?_) | refine WL.casesND (d := 62) rfl (fun hg62 => ?_) (fun hg62 => ?_) | refine WL.cases (d := 62) rfl (fun hg62 => ?_) (fun hg62 => ?_)
        · -- t62 = T
          refine WL.goff rfl rfl (by decide) ?_
          refine WL.goff rfl rfl (by decide) ?_
          refine WL.goff rfl rfl (by decide) ?_
          refine WL.goff rfl rfl (by decide) ?_
          refine WL.goff rfl rfl (by decide) ?_
          refine WL.val (Y.pick rfl rfl) (by decide) ?_
          refine WL.nil ⟨⟨_, rfl, ?_⟩, rfl, (by repeat (first | exact Fr.le.refl | refine Fr.le.push rfl ?_))⟩
          first | (simp only [*, Int.natCast_inj, Bool.not_eq_true', decide_eq_false_iff_not, decide_eq_true_eq, not_true_eq_false, not_false_eq_true, true_and, false_and, and_true, and_false, false_or, or_false, true_or, or_true, iff_true, true_iff, iff_false, false_iff]; done) | (simp_all; done) | (refine congrArg Value.bool (Bool.eq_iff_iff.2 ?_); simp_all; done) | (simp_all; omega)
        · -- t62 = F
          refine WL.gval rfl rfl (Y.fieldAddr fo_apiRef1 rfl) (by decide) ?_
          refine WL.gval rfl rfl (Y.load Try.underlying50 rfl hB11.mem.ref1 (sz_apiDigest _) rfl) (by decide) ?_
          refine WL.gval rfl rfl (Y.fieldAddr fo_apiRun0 rfl) (by decide) ?_
          refine WL.gval rfl rfl (Y.load Try.underlying50 rfl hB9.mem.apiRun0 (sz_apiDigest _) rfl) (by decide) ?_
          refine WL.gval rfl rfl (Y.neq_apiDigest rfl rfl) (by decide) ?_
          refine WL.val (Y.pick rfl rfl) (by decide) ?_
          refine WL.nil ⟨⟨_, rfl, ?_⟩, rfl, (by repeat (first | exact Fr.le.refl | refine Fr.le.push rfl ?_))⟩
          first | (simp only [*, Int.natCast_inj, Bool.not_eq_true', decide_eq_false_iff_not, decide_eq_true_eq, not_true_eq_false, not_false_eq_true, true_and, false_and, and_true, and_false, false_or, or_false, true_or, or_true, iff_true, true_iff, iff_false, false_iff]; done) | (simp_all; done) | (refine congrArg Value.bool (Bool.eq_iff_iff.2 ?_); simp_all; done) | (simp_all; omega)
      first | refine CW.condD rfl (fun ht26 => ?_) (fun ht26 => ?_) | refine CW.condND rfl (fun ht26 => ?_) (fun ht26 => ?_) | refine CW.condN rfl (fun ht26 => ?_) (fun ht26 => ?_) | refine CW.cond rfl (fun ht26 => ?_) (fun ht26 => ?_)
      · -- then
        refine CW.seq fun K27 hK27 => ?_
        refine CW.region ?_
        refine WL.val (Y.assign rfl) (by decide) ?_
        refine WL.nil ?_
        refine hK27 _ _ ?_; try clear hK27 K27
        refine CW.ret ⟨_, rfl, ?_⟩
        exact False.elim (by assumption)
   
      refine CW.skip ?_
      refine hK25 _ _ ?_; try clear hK25 K25
      refine CW.seq fun K28 hK28 => ?_
      refine CW.region ?_
      refine WL.val (Y.move rfl) (by decide) ?_
      refine WL.val (Y.add rfl rfl ⟨by omega, by omega⟩) (by decide) ?_
      refine WL.val (Y.assign rfl) (by decide) ?_
      refine WL.nil ?_
      refine hK28 _ _ ?_; try clear hK28 K28
      refine CW.seq fun K29 hK29 => ?_
      refine CW.region ?_
      refine WL.val (Y.move rfl) (by decide) ?_
      refine WL.val (Y.gtr rfl rfl) (by decide) ?_
      refine WL.nil ?_
      refine hK29 _ _ ?_; try clear hK29 K29
      first | refine CW.condD rfl (fun ht30 => ?_) (fun ht30 => ?_) | refine CW.condND rfl (fun ht30 => ?_) (fun ht30 => ?_) | refine CW.condN rfl (fun ht30 => ?_) (fun ht30 => ?_) | refine CW.cond rfl (fun ht30 => ?_) (fun ht30 => ?_)
      · -- then
        refine CW.seq fun K31 hK31 => ?_
        refine CW.region ?_
        refine WL.val (Y.assign rfl) (by decide) ?_
        refine WL.nil ?_
        refine hK31 _ _ ?_; try clear hK31 K31
        refine CW.ret ⟨_, rfl, ?_⟩
        exact ⟨rfl, hE⟩
   
      refine CW.skip ?_
      refine hK23 _ _ ?_; try clear hK23 K23
      refine CW.region ?_
      refine WL.val (Y.move rfl) (by decide) ?_
      refine WL.val (Y.add rfl rfl ⟨by omega, by omega⟩) (by decide) ?_
      refine WL.val (Y.assign rfl) (by decide) ?_
      refine WL.nil ?_
      exact ⟨k + 1, (by show r.n - (k + 1) < r.n - k; omega), (by repeat (first | exact Fr.le.nil | refine Fr.le.cons rfl ?_ | refine Fr.le.cons (by show some (Value.int .i64 _) = some (Value.int .i64 _); congr 2; omega) ?_)), (by show k + 1 ≤ r.n; omega), (hL7.thenExt hx8).thenExt hx9⟩
 
    refine CW.exit ?_
    refine hK14 _ _ ?_; try clear hK14 K14
    refine CW.region ?_
    refine WL.val (Y.add rfl rfl ⟨by omega, by omega⟩) (by decide) ?_
    refine WL.val (Y.move rfl) (by decide) ?_
    refine WL.nil ?_
    exact ⟨i + 1, (by show rm - (i + 1) < rm - i; omega), (by repeat (first | exact Fr.le.nil | refine Fr.le.cons rfl ?_ | refine Fr.le.cons (by show some (Value.int .i64 _) = some (Value.int .i64 _); congr 2; omega) ?_)), (by show i + 1 ≤ rm; omega), ((hL.thenExt hL5).thenExt hx6).thenExt hL7⟩
  refine CW.exit ?_
  refine hK9 _ _ ?_; try clear hK9 K9
  refine CW.seq fun K32 hK32 => ?_
  refine CW.region ?_
  refine WL.val (Y.move rfl) (by decide) ?_
  refine WL.val (Y.move rfl) (by decide) ?_
  refine WL.call Try.func20 rfl rfl rfl (flen_any g rb ra _ ns _ (hT1.ext (hx2.thenExt hL))) (by simp) ?_; rintro v w10 ⟨rfl, hx10⟩; have hz10 := hx10.size; have hE := hE.thenExt hx10
  refine WL.val (Y.eql rfl rfl) (by decide) ?_
  refine WL.val (Y.move rfl) (by decide) ?_
  first | refine WL.casesD (d := 78) rfl (fun hg78 => ?_) (fun hg78 => ?_) | refine WL.casesND (d := 78) rfl (fun hg78 => ?_) (fun hg78 => ?_) | refine WL.cases (d := 78) rfl (fun hg78 => ?_) (fun hg78 => ?_)
  · -- t78 = T
    refine WL.gcall rfl rfl Try.func16 rfl rfl rfl (ealive_any _) (by decide) ?_; rintro v w11 ⟨rfl, hx11⟩; have hz11 := hx11.size; have hE := hE.thenExt hx11
    refine WL.val (Y.pick rfl rfl) (by decide) ?_
    refine WL.val (Y.assign rfl) (by decide) ?_
    refine WL.nil ?_
    refine hK32 _ _ ?_; try clear hK32 K32
    refine CW.ret ⟨_, rfl, ?_⟩
    exact ⟨rfl, hE⟩
  · -- t78 = F
    refine WL.goff rfl rfl (by decide) ?_
    refine WL.val (Y.pick rfl rfl) (by decide) ?_
    refine WL.val (Y.assign rfl) (by decide) ?_
    refine WL.nil ?_
    refine hK32 _ _ ?_; try clear hK32 K32
    refine CW.ret ⟨_, rfl, ?_⟩
    exfalso
    have hte : R.take i = R := List.take_of_length_le (by omega)
    rw [hte, hal] at hg78
    simp_all
end Go.Proofs.Ytmndofgagngcgaa
