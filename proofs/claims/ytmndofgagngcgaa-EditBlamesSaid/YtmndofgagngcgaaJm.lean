/- The document's Blame, and two lists of runs, walked. No condition but bounds. -/
import Derived.Test.YtmndofgagngcgaaJl
set_option linter.unusedSimpArgs false
set_option linter.unusedVariables false
namespace Go.Proofs.Ytmndofgagngcgaa
open Go.RowKit Go.Fw Go.Fu Go.Pl

set_option maxRecDepth 100000 in
set_option maxHeartbeats 2000000 in
theorem rblame_any (g : Nat) (ad : List Dig) (rs : List Rn) (av ev_ : Value) (w : World) (hR : RtAt w g ad rs av ev_) (hG : Fu.Good (rels rs)) (hn : rs.length ≤ 400001) : Calls Try.prog 19 #[.pointer (some ⟨g, 0, none⟩)] w (Ret fun v w' => Own w' TRu 33 v (runL (blameE (rels rs))) ∧ (∀ q, v.ownBlock = some q → w.heap.size ≤ q) ∧ Ext w w') := by
  obtain ⟨A, m, c, rfl⟩ := hR.es.lens
  have hsl := hR.sl
  have hel : (rels rs).length = rs.length := List.length_map _
  have hmm : rs.length = m ∧ m ≤ c ∧ c ≤ maxLen := by
    obtain ⟨A', m', c', e, h1, h2, h3, _⟩ := hsl
    injection e with e1 e2 e3
    exact ⟨by omega, by omega, by omega⟩
  unfold maxLen at hmm
  have hat : ∀ i x, rs[i]? = some x → ∃ a, A = some a ∧ Mem w (a.add (i * 38)) (rC x) := fun i x hx => hsl.get hx
  have hxe : ∀ (i : Nat) (x : Rn), rs[i]? = some x → (rels rs)[i]? = some x.el := fun i x hx => by rw [List.getElem?_map, hx]; rfl
  have hpos := hG.pos
  obtain ⟨x0, hx0⟩ : ∃ x, rs[0]? = some x := ⟨_, List.getElem?_eq_getElem (by omega)⟩
  obtain ⟨EA, hEA, _⟩ := hat 0 x0 hx0
  subst hEA
  have hme : ∀ i x, rs[i]? = some x → Mem w (EA.add (i * 38)) (rC x) := fun i x hx => by
    obtain ⟨a, ha, h⟩ := hat i x hx
    cases ha; exact h
  have hsn : (seenE (rels rs)).length ≤ 400001 := by
    have hol : (orderE (rels rs)).length = rs.length := by
      have := hG.perm.length_eq
      rwa [List.length_range, hel] at this
    have : (seenE (rels rs)).length ≤ (orderE (rels rs)).length := List.length_filter_le _ _
    omega
  obtain ⟨ds, hds⟩ : ∃ ds : List Dig, ds = (seenE (rels rs)).map fun q => (nm (rels rs) q).c := ⟨_, rfl⟩
  have hdl : ds.length = (seenE (rels rs)).length := by rw [hds, List.length_map]
  obtain ⟨idg, hid, hzd, hsd⟩ := info_apiDigest
  refine calls_of_CW 60 [2] [(0, .pointer (some ⟨g, 0, none⟩))] Try.func19 rfl rfl rfl (by simp) args1 ?_
  have hE : Ext w w := Chg.refl
  refine CW.seq fun K1 hK1 => ?_
  refine CW.region ?_
  refine WL.val (Y.assign rfl) (by decide) ?_
  refine WL.nil ?_
  refine hK1 _ _ ?_; try clear hK1 K1
  refine CW.seq fun K2 hK2 => ?_
  refine CW.region ?_
  refine WL.val (Y.move rfl) (by decide) ?_
  refine WL.call Try.func34 rfl rfl rfl (rseen_any g ad rs av _ _ (hR.ext hE) hG hn) (by simp) ?_; rintro v9 w1 hR1
  obtain ⟨hOS, hfS, hxS⟩ := hR1
  have hzS := hxS.size
  obtain ⟨SA, Sm, Sc, rfl⟩ := hOS.lens
  obtain ⟨hlmS, hlgS⟩ := int_map hOS
  have hE1 := hE.thenExt hxS
  have hE := hE1
  refine WL.val (Y.assign rfl) (by decide) ?_
  refine WL.nil ?_
  refine hK2 _ _ ?_; try clear hK2 K2
  refine CW.seq fun K3 hK3 => ?_
  refine CW.region ?_
  refine WL.val (Y.assign rfl) (by decide) ?_
  refine WL.nil ?_
  refine hK3 _ _ ?_; try clear hK3 K3
  refine CW.seq fun K4 hK4 => ?_
  refine CW.seq fun K5 hK5 => ?_
  refine CW.region ?_
  refine WL.val (Y.assign rfl) (by decide) ?_
  refine WL.nil ?_
  refine hK5 _ _ ?_; try clear hK5 K5
  refine CW.block ?_
  refine CW.loop (X := Nat × Value) (fun x => [(0, .pointer (some ⟨g, 0, none⟩)), (3, .slice SA Sm Sc), (4, x.2), (5, .int .i64 (x.1 : Int))]) (fun x w0 => x.1 ≤ Sm ∧ Ext w1 w0 ∧ Own w0 TRu 33 x.2 (runL ((ds.take x.1).foldl addR [])) ∧ ∀ q, x.2.ownBlock = some q → w1.heap.size ≤ q) (fun x => Sm - x.1) (0, .slice none 0 0) (by repeat (first | exact Fr.le.nil | refine Fr.le.cons rfl ?_)) ⟨Nat.zero_le _, Chg.refl, Own.nil, fun q h => by simp [Value.ownBlock] at h⟩ ?_
  intro x w2 hl2
  obtain ⟨i, ov⟩ := x
  obtain ⟨hi, hL1, hO, hf⟩ := hl2
  dsimp only at hi hO hf ⊢
  have hE := hE1.thenExt hL1
  have hzL := hL1.size
  refine CW.seq fun K6 hK6 => ?_
  refine CW.seq fun K7 hK7 => ?_
  refine CW.region ?_
  refine WL.val (Y.move rfl) (by decide) ?_
  refine WL.val (Y.move rfl) (by decide) ?_
  refine WL.val (Y.len_slice Try.underlying84 rfl) (by decide) ?_
  refine WL.val (Y.lss rfl rfl) (by decide) ?_
  refine WL.nil ?_
  refine hK7 _ _ ?_; try clear hK7 K7
  first | refine CW.condD rfl (fun ht8 => ?_) (fun ht8 => ?_) | refine CW.condND rfl (fun ht8 => ?_) (fun ht8 => ?_) | refine CW.condN rfl (fun ht8 => ?_) (fun ht8 => ?_) | refine CW.cond rfl (fun ht8 => ?_) (fun ht8 => ?_)
  · -- then
    refine CW.skip ?_
    refine hK6 _ _ ?_; try clear hK6 K6
    obtain ⟨q, hqk⟩ : ∃ q, (seenE (rels rs))[i]? = some q := ⟨_, List.getElem?_eq_getElem (by omega)⟩
    obtain ⟨oa, hoa, hmo⟩ := hlgS _ q hqk
    subst hoa
    have hql : q < rs.length := by have := seen_lt hG.down (List.mem_of_getElem? hqk); omega
    obtain ⟨y, hy⟩ : ∃ y, rs[q]? = some y := ⟨_, List.getElem?_eq_getElem hql⟩
    have hye := hxe q y hy
    have hmy := hme q y hy
    have hdq : ds[i]? = some y.el.name.c := by rw [hds, List.getElem?_map, hqk]; simp [nm_at hye]
    obtain ⟨L, hL⟩ : ∃ L, L = (ds.take i).foldl addR [] := ⟨_, rfl⟩
    have hnext : (ds.take (i + 1)).foldl addR [] = addR L y.el.name.c := by rw [Go.Pl.take_succ hdq, List.foldl_append, ← hL]; rfl
    obtain ⟨hLl, hLn⟩ := runs_bd (ds.take i)
    rw [← hL] at hO hLl hLn
    rw [List.length_take] at hLl hLn
    have hLn : ∀ x ∈ L, x.n ≤ i := fun x hx => by have := hLn x hx; omega
    obtain ⟨uA, um, uc, rfl⟩ := hO.lens
    obtain ⟨hm, hcell⟩ := run_cell hO
    have hult := hO.lt
    refine CW.seq_to (X := Value) (fun v => [(0, .pointer (some ⟨g, 0, none⟩)), (3, .slice (some oa) Sm Sc), (4, v), (5, .int .i64 (i : Int))]) (fun v w0 => Ext w1 w0 ∧ Own w0 TRu 33 v (runL (addR L y.el.name.c)) ∧ ∀ q, v.ownBlock = some q → w1.heap.size ≤ q) ?_ ?_
    · skip
      refine CW.block ?_
      refine CW.seq fun K10 hK10 => ?_
      refine CW.held (fun wq => Ext w2 wq) (by kernel_rfl) 14 rfl fun w3 hS => ?_
      refine RH.take 0 (fun _ _ _ _ h => h) (by kernel_rfl) hS rfl (by kernel_rfl) (by kernel_rfl) (fun wq hq => Y.move rfl) (by decide) ?_
      refine RH.take 1 (fun _ _ _ _ h => h) (by kernel_rfl) hS rfl (by kernel_rfl) (by kernel_rfl) (fun wq hq => Y.nilCheck rfl) (by decide) ?_
      refine RH.take 2 (fun _ _ _ _ h => h) (by kernel_rfl) hS rfl (by kernel_rfl) (by kernel_rfl) (fun wq hq => Y.fieldAddr fo_recensionref08Tree1 rfl) (by decide) ?_
      refine RH.take 3 (fun _ _ _ _ h => h) (by kernel_rfl) hS rfl (by kernel_rfl) (by kernel_rfl) (fun wq hq => Y.load1 Try.underlying89 rfl ((hR.ext (hE.thenExt hq)).blk.mem.recensionref08Tree1) rfl) (by decide) ?_
      refine RH.take 4 (fun _ _ _ _ h => h) (by kernel_rfl) hS rfl (by kernel_rfl) (by kernel_rfl) (fun wq hq => Y.move rfl) (by decide) ?_
      refine RH.take 5 (fun _ _ _ _ h => h) (by kernel_rfl) hS rfl (by kernel_rfl) (by kernel_rfl) (fun wq hq => Y.move rfl) (by decide) ?_
      refine RH.take 6 (fun _ _ _ _ h => h) (by kernel_rfl) hS rfl (by kernel_rfl) (by kernel_rfl) (fun wq hq => Y.indexAddrN Try.underlying84 rfl rfl sz0_int (by omega)) (by decide) ?_
      refine RH.take 7 (fun _ _ _ _ h => h) (by kernel_rfl) hS rfl (by kernel_rfl) (by kernel_rfl) (fun wq hq => Y.load1 Try.underlying3 rfl ((hmo.ext (hL1.thenExt hq)).cell0) rfl) (by decide) ?_
      refine RH.take 8 (fun _ _ _ _ h => h) (by kernel_rfl) hS rfl (by kernel_rfl) (by kernel_rfl) (fun wq hq => Y.indexAddrN Try.underlying89 rfl rfl sz0_recensionref08Elem (by omega)) (by decide) ?_
      refine RH.take 9 (fun _ _ _ _ h => h) (by kernel_rfl) hS rfl (by kernel_rfl) (by kernel_rfl) (fun wq hq => Y.fieldAddr fo_recensionref08Elem0 rfl) (by decide) ?_
      refine RH.take 10 (fun _ _ _ _ h => h) (by kernel_rfl) hS rfl (by kernel_rfl) (by kernel_rfl) (fun wq hq => Y.fieldAddr fo_apiRef1 rfl) (by decide) ?_
      refine RH.take 11 (fun _ _ _ _ h => h) (by kernel_rfl) hS rfl (by kernel_rfl) (by kernel_rfl) (fun wq hq => Y.load Try.underlying50 rfl ((hmy.ext (hE.thenExt hq)).recensionref08Elem0.ref1) (sz_apiDigest _) rfl) (by decide) ?_
      refine RH.one 12 (by kernel_rfl) ?_
      refine RS.st rfl (St.allocM hid hzd rfl) (by decide) fun v6 w4 hR4 => ?_
      obtain ⟨g6, rfl, hg6, hB6, hxc⟩ := hR4
      have hzS3 := hS.size
      have hS := hS.thenExt hxc
      refine ⟨hS, ?_⟩
      refine RH.one 13 (by kernel_rfl) ?_
      refine RS.store rfl (g := g6) (pre := []) (old := digC Dig.zero) (post := []) (new := digC y.el.name.c) rfl rfl rfl rfl (sz_apiDigest _) (by simpa using hB6) (by simp only [digC_length]) (one_digC) (fun w5 hc5 hB5_ => ?_)
      have hB6 : Blk w5 g6 50 (digC y.el.name.c) := by simpa using hB5_
      have hS : Ext w2 w5 := hS.step hc5 (fun k h => by have h : k = g6 := h; omega)
      refine ⟨hS, ?_⟩
      refine RH.done (by kernel_rfl) ?_
      have hx6 := hS; have hz6 := hx6.size; have hE := hE.thenExt hx6
      refine hK10 _ _ ?_; try clear hK10 K10
      refine CW.seq fun K11 hK11 => ?_
      refine CW.region ?_
      refine WL.val (Y.move rfl) (by decide) ?_
      refine WL.val (Y.len_slice Try.underlying38 rfl) (by decide) ?_
      refine WL.val (Y.assign rfl) (by decide) ?_
      refine WL.nil ?_
      refine hK11 _ _ ?_; try clear hK11 K11
      refine CW.seq_testE 41 ((0 : Int) < (um : Int) ∧ lastR L = y.el.name.c) ?_ ?_
      · refine CW.quiet (fun wq => Ext w5 wq) (by kernel_rfl) (by kernel_rfl) Chg.drew ?_
        refine QL.val (fun wq hq => Y.move rfl) (by decide) ?_
        refine QL.val (fun wq hq => Y.gtr rfl rfl) (by decide) ?_
        refine QL.val (fun wq hq => Y.move rfl) (by decide) ?_
        first | refine QL.casesD (d := 32) rfl (fun hg32 => ?_) (fun hg32 => ?_) | refine QL.casesND (d := 32) rfl (fun hg32 => ?_) (fun hg32 => ?_) | refine QL.cases (d := 32) rfl (fun hg32 => ?_) (fun hg32 => ?_)
        · -- t32 = T
          obtain ⟨a, x, hax, hx, hxk, hma⟩ := hcell (by omega)
          subst hax
          rw [← hxk]
          refine QL.gval rfl rfl (fun wq hq => Y.move rfl) (by decide) ?_
          refine QL.gval rfl rfl (fun wq hq => Y.move rfl) (by decide) ?_
          refine QL.gval rfl rfl (fun wq hq => Y.subC (c := um - 1) rfl rfl (by omega) (by omega)) (by decide) ?_
          refine QL.gval rfl rfl (fun wq hq => Y.indexAddrN Try.underlying38 rfl rfl sz0_apiRun (by omega)) (by decide) ?_
          refine QL.gval rfl rfl (fun wq hq => Y.fieldAddr fo_apiRun0 rfl) (by decide) ?_
          refine QL.gval rfl rfl (fun wq hq => Y.load Try.underlying50 rfl ((hma.ext (hx6.thenExt hq)).apiRun0) (sz_apiDigest _) rfl) (by decide) ?_
          refine QL.gval rfl rfl (fun wq hq => Y.load Try.underlying50 rfl ((hB6.ext hq).mem) (sz_apiDigest _) rfl) (by decide) ?_
          refine QL.gval rfl rfl (fun wq hq => Y.eql_apiDigest rfl rfl) (by decide) ?_
          refine QL.val (fun wq hq => Y.pick rfl rfl) (by decide) ?_
          refine QL.nil fun wq hq => ⟨⟨_, rfl, ?_⟩, hq, (by repeat (first | exact Fr.le.refl | refine Fr.le.push rfl ?_))⟩
          first | (simp only [*, Int.natCast_inj, Bool.not_eq_true', decide_eq_false_iff_not, decide_eq_true_eq, not_true_eq_false, not_false_eq_true, true_and, false_and, and_true, and_false, false_or, or_false, true_or, or_true, iff_true, true_iff, iff_false, false_iff]; done) | (simp_all; done) | (refine congrArg Value.bool (Bool.eq_iff_iff.2 ?_); simp_all; done) | (simp_all; omega)
        · -- t32 = F
          refine QL.goff rfl rfl (by decide) ?_
          refine QL.goff rfl rfl (by decide) ?_
          refine QL.goff rfl rfl (by decide) ?_
          refine QL.goff rfl rfl (by decide) ?_
          refine QL.goff rfl rfl (by decide) ?_
          refine QL.goff rfl rfl (by decide) ?_
          refine QL.goff rfl rfl (by decide) ?_
          refine QL.goff rfl rfl (by decide) ?_
          refine QL.val (fun wq hq => Y.pick rfl rfl) (by decide) ?_
          refine QL.nil fun wq hq => ⟨⟨_, rfl, ?_⟩, hq, (by repeat (first | exact Fr.le.refl | refine Fr.le.push rfl ?_))⟩
          first | (simp only [*, Int.natCast_inj, Bool.not_eq_true', decide_eq_false_iff_not, decide_eq_true_eq, not_true_eq_false, not_false_eq_true, true_and, false_and, and_true, and_false, false_or, or_false, true_or, or_true, iff_true, true_iff, iff_false, false_iff]; done) | (simp_all; done) | (refine congrArg Value.bool (Bool.eq_iff_iff.2 ?_); simp_all; done) | (simp_all; omega)
      intro w7 hx7; have hz7 := hx7.size; have hE := hE.thenExt hx7
      first | refine CW.condD rfl (fun ht12 => ?_) (fun ht12 => ?_) | refine CW.condND rfl (fun ht12 => ?_) (fun ht12 => ?_) | refine CW.condN rfl (fun ht12 => ?_) (fun ht12 => ?_) | refine CW.cond rfl (fun ht12 => ?_) (fun ht12 => ?_)
      · -- then
        have hcond : (0 : Int) < (um : Int) ∧ lastR L = y.el.name.c := by assumption
        obtain ⟨x1, hx1⟩ : ∃ x, L[um - 1]? = some x := ⟨_, List.getElem?_eq_getElem (by omega)⟩
        obtain ⟨a1, x2, hax, hx2, _, hma1⟩ := hcell (by omega)
        rw [hx1] at hx2
        obtain rfl := Option.some.inj hx2
        subst hax
        have hxb := hLn x1 (List.mem_of_getElem? hx1)
        obtain ⟨g1, hg1⟩ := run_head hO (by omega)
        subst hg1
        have hg1f : w1.heap.size ≤ g1 := hf g1 rfl
        have hset := addR_old (l := L) (by omega) hcond.2 (by rw [hm]; exact hx1)
        rw [hm] at hset
        have hO7 := (hO.ext hx6).ext hx7
        have hma1 := (hma1.ext hx6).ext hx7
        refine CW.region ?_
        refine WL.val (Y.move rfl) (by decide) ?_
        refine WL.val (Y.move rfl) (by decide) ?_
        refine WL.val (Y.subC (c := um - 1) rfl rfl (by omega) (by omega)) (by decide) ?_
        refine WL.val (Y.move rfl) (by decide) ?_
        refine WL.val (Y.move rfl) (by decide) ?_
        refine WL.val (Y.subC (c := um - 1) rfl rfl (by omega) (by omega)) (by decide) ?_
        refine WL.val (Y.indexAddrN Try.underlying38 rfl rfl sz0_apiRun (by omega)) (by decide) ?_
        refine WL.val (Y.fieldAddr fo_apiRun1 rfl) (by decide) ?_
        refine WL.val (Y.load1 Try.underlying3 rfl hma1.apiRun1 rfl) (by decide) ?_
        refine WL.val (Y.add rfl rfl ⟨by omega, by omega⟩) (by decide) ?_
        refine WL.val (Y.indexAddrN Try.underlying38 rfl rfl sz0_apiRun (by omega)) (by decide) ?_
        refine WL.val (Y.fieldAddr fo_apiRun1 rfl) (by decide) ?_
        refine WL.storeO (g := g1) (pre := runL ((L).take (um - 1)) ++ digC x1.c) (old := [.int .i64 (x1.n : Int)]) (post := runL ((L).drop (um - 1 + 1))) (new := [.int .i64 ((x1.n : Int) + 1)]) rfl (by rw [add_add, add_zero', List.length_append, runL_length, List.length_take, Nat.min_eq_left (by omega), digC_length]) rfl rfl (by kernel_rfl) (by rw [← (runL_n hx1 0).1]; exact hO7) (by first | rfl | (simp [digC_length, opC_length]; done) | (simp only [digC_length, opC_length]; omega)) (one1 rfl) (fun w8 hc8 hB8_ => ?_)
        have hz8 := hc8.size
        have hO2 : Own w8 TRu 33 (.slice (some ⟨g1, 0, none⟩) um uc) (runL (addR L y.el.name.c)) := by
          have e : ((x1.n : Int) + 1) = ((x1.n + 1 : Nat) : Int) := by omega
          rw [e, ← (runL_n hx1 (x1.n + 1)).2] at hB8_
          rw [hset]; exact hB8_
        refine WL.nil ?_
        exact ⟨.slice (some ⟨g1, 0, none⟩) um uc, (by repeat (first | exact Fr.le.nil | refine Fr.le.cons rfl ?_)), ((hL1.thenExt hx6).thenExt hx7).step hc8 (fun k h => by have h : k = g1 := h; omega), hO2, hf⟩
   
      refine CW.region ?_
      refine WL.val (Y.move rfl) (by decide) ?_
      refine WL.val (Y.load Try.underlying50 rfl ((hB6.ext hx7).mem) (sz_apiDigest _) rfl) (by decide) ?_
      refine WL.val (Y.build rfl (build_run1 _ _)) (by decide) ?_
      refine WL.st (St.buildSlice rfl (bs1_run _)) (by decide) fun v57 w9 hR9 => ?_
      obtain ⟨g57, rfl, hg57, hB57, hx9⟩ := hR9
      have hz9 := hx9.size
      refine WL.st (St.append (m := 1) (news := runC ⟨y.el.name.c, 1⟩) URu URu ai_run rfl rfl (((hO.ext hx6).ext hx7).ext hx9) (Fw.Src.one hB57 (runC_length _)) one_runC (by rw [runL_length]; omega)) (by decide) fun v58 w10 hR10 => ?_
      obtain ⟨hO8, hc8, hf8⟩ := hR10
      have hz8 := hc8.size
      have hf9 : ∀ q, v58.ownBlock = some q → w1.heap.size ≤ q := fun k hk => by
        rcases hf8 with h | h
        · rw [h] at hk; exact hf k hk
        · have := h k hk; omega
      have hno : ¬ (0 < L.length ∧ lastR L = y.el.name.c) := fun h => absurd (show (0 : Int) < (um : Int) ∧ lastR L = y.el.name.c from ⟨by omega, h.2⟩) (by assumption)
      refine WL.val (Y.assign rfl) (by decide) ?_
      refine WL.nil ?_
      exact ⟨v58, (by repeat (first | exact Fr.le.nil | refine Fr.le.cons rfl ?_)), (((hL1.thenExt hx6).thenExt hx7).thenExt hx9).step hc8 (fun k h => hf k h), (by rw [addR_new hno]; simpa [runL] using hO8), hf9⟩
    rintro u w11 hj11
    obtain ⟨hL3, hO3, hf3⟩ := hj11
    have hE := hE1.thenExt hL3
    refine CW.region ?_
    refine WL.val (Y.move rfl) (by decide) ?_
    refine WL.val (Y.add rfl rfl ⟨by omega, by omega⟩) (by decide) ?_
    refine WL.val (Y.assign rfl) (by decide) ?_
    refine WL.nil ?_
    exact ⟨(i + 1, u), by show Sm - (i + 1) < Sm - i; omega, (by repeat (first | exact Fr.le.nil | refine Fr.le.cons rfl ?_)), by show i + 1 ≤ Sm; omega, hL3, (by rw [hnext]; exact hO3), hf3⟩
  refine CW.exit ?_
  refine hK4 _ _ ?_; try clear hK4 K4
  refine CW.seq fun K13 hK13 => ?_
  refine CW.region ?_
  refine WL.val (Y.move rfl) (by decide) ?_
  refine WL.val (Y.assign rfl) (by decide) ?_
  refine WL.nil ?_
  refine hK13 _ _ ?_; try clear hK13 K13
  refine CW.ret ⟨_, rfl, ?_⟩
  have hte : ds.take i = ds := List.take_of_length_le (by omega)
  rw [hte] at hO
  exact ⟨(by rw [blameE, ← hds]; exact hO), (fun q hq => by have := hf q hq; omega), hE⟩
theorem sameRuns_any (u v : Value) (xs ys : List RuD) (w : World) (hu : Sl w runC 33 u xs) (hv : Sl w runC 33 v ys) : Calls Try.prog 17 #[u, v] w (Ret fun r w' => r = .bool (decide (xs = ys)) ∧ Ext w w') := by
  obtain ⟨A, m, c, rfl, hm, hmc, hcm, hux⟩ := id hu
  obtain ⟨B, n, d, rfl, hn, hnd, hdm, hvx⟩ := id hv
  unfold maxLen at hcm hdm
  refine calls_of_CW 26 [4] [(0, .slice A m c), (1, .slice B n d)] Try.func17 rfl rfl rfl (by simp) args2 ?_
  have hE : Ext w w := Chg.refl
  refine CW.seq fun K1 hK1 => ?_
  refine CW.region ?_
  refine WL.val (Y.assign rfl) (by decide) ?_
  refine WL.nil ?_
  refine hK1 _ _ ?_; try clear hK1 K1
  refine CW.seq fun K2 hK2 => ?_
  refine CW.seq fun K3 hK3 => ?_
  refine CW.region ?_
  refine WL.val (Y.move rfl) (by decide) ?_
  refine WL.val (Y.len_slice Try.underlying38 rfl) (by decide) ?_
  refine WL.val (Y.move rfl) (by decide) ?_
  refine WL.val (Y.len_slice Try.underlying38 rfl) (by decide) ?_
  refine WL.val (Y.neq rfl rfl) (by decide) ?_
  refine WL.nil ?_
  refine hK3 _ _ ?_; try clear hK3 K3
  first | refine CW.condD rfl (fun ht4 => ?_) (fun ht4 => ?_) | refine CW.condND rfl (fun ht4 => ?_) (fun ht4 => ?_) | refine CW.condN rfl (fun ht4 => ?_) (fun ht4 => ?_) | refine CW.cond rfl (fun ht4 => ?_) (fun ht4 => ?_)
  · -- then
    refine CW.seq fun K5 hK5 => ?_
    refine CW.region ?_
    refine WL.val (Y.assign rfl) (by decide) ?_
    refine WL.nil ?_
    refine hK5 _ _ ?_; try clear hK5 K5
    refine CW.ret ⟨_, rfl, ?_⟩
    exact ⟨by rw [decide_eq_false (fun h => by subst h; omega)], hE⟩
  refine CW.skip ?_
  refine hK2 _ _ ?_; try clear hK2 K2
  refine CW.seq fun K6 hK6 => ?_
  refine CW.seq fun K7 hK7 => ?_
  refine CW.region ?_
  refine WL.val (Y.assign rfl) (by decide) ?_
  refine WL.nil ?_
  refine hK7 _ _ ?_; try clear hK7 K7
  refine CW.block ?_
  refine CW.loop (X := Nat) (fun x => [(0, .slice A m c), (1, .slice B n d), (5, .int .i64 (x : Int))]) (fun x w0 => x ≤ xs.length ∧ xs.take x = ys.take x ∧ Ext w w0) (fun x => xs.length - x) 0 (by repeat (first | exact Fr.le.nil | refine Fr.le.cons rfl ?_)) ⟨Nat.zero_le _, by simp, hE⟩ ?_
  intro x w1 hl1
  obtain ⟨hx, hpre, hE⟩ := hl1
  refine CW.seq fun K8 hK8 => ?_
  refine CW.seq fun K9 hK9 => ?_
  refine CW.region ?_
  refine WL.val (Y.move rfl) (by decide) ?_
  refine WL.val (Y.move rfl) (by decide) ?_
  refine WL.val (Y.len_slice Try.underlying38 rfl) (by decide) ?_
  refine WL.val (Y.lss rfl rfl) (by decide) ?_
  refine WL.nil ?_
  refine hK9 _ _ ?_; try clear hK9 K9
  first | refine CW.condD rfl (fun ht10 => ?_) (fun ht10 => ?_) | refine CW.condND rfl (fun ht10 => ?_) (fun ht10 => ?_) | refine CW.condN rfl (fun ht10 => ?_) (fun ht10 => ?_) | refine CW.cond rfl (fun ht10 => ?_) (fun ht10 => ?_)
  · -- then
    refine CW.skip ?_
    refine hK8 _ _ ?_; try clear hK8 K8
    refine CW.seq fun K11 hK11 => ?_
    refine CW.block ?_
    refine CW.seq fun K12 hK12 => ?_
    obtain ⟨px, hpx⟩ : ∃ p, xs[x]? = some p := ⟨_, List.getElem?_eq_getElem (by omega)⟩
    obtain ⟨py, hpy⟩ : ∃ p, ys[x]? = some p := ⟨_, List.getElem?_eq_getElem (by omega)⟩
    obtain ⟨a, rfl, hma⟩ := (hu.ext hE).get hpx
    obtain ⟨b, rfl, hmb⟩ := (hv.ext hE).get hpy
    refine CW.quiet (fun wq => Ext w1 wq) (by kernel_rfl) (by kernel_rfl) Chg.drew ?_
    refine QL.val (fun wq hq => Y.move rfl) (by decide) ?_
    refine QL.val (fun wq hq => Y.move rfl) (by decide) ?_
    refine QL.val (fun wq hq => Y.indexAddrN Try.underlying38 rfl rfl sz0_apiRun (by omega)) (by decide) ?_
    refine QL.val (fun wq hq => Y.load Try.underlying65 rfl (hma.ext hq) (sz_apiRun _) rfl) (by decide) ?_
    refine QL.val (fun wq hq => Y.move rfl) (by decide) ?_
    refine QL.val (fun wq hq => Y.move rfl) (by decide) ?_
    refine QL.val (fun wq hq => Y.indexAddrN Try.underlying38 rfl rfl sz0_apiRun (by omega)) (by decide) ?_
    refine QL.val (fun wq hq => Y.load Try.underlying65 rfl (hmb.ext hq) (sz_apiRun _) rfl) (by decide) ?_
    refine QL.val (fun wq hq => Y.neq_apiRun rfl rfl) (by decide) ?_
    refine QL.nil fun w2 hx2 => ?_
    have hz2 := hx2.size
    have hE := hE.thenExt hx2
    refine hK12 _ _ ?_; try clear hK12 K12
    first | refine CW.condD rfl (fun ht13 => ?_) (fun ht13 => ?_) | refine CW.condND rfl (fun ht13 => ?_) (fun ht13 => ?_) | refine CW.condN rfl (fun ht13 => ?_) (fun ht13 => ?_) | refine CW.cond rfl (fun ht13 => ?_) (fun ht13 => ?_)
    · -- then
      refine CW.seq fun K14 hK14 => ?_
      refine CW.region ?_
      refine WL.val (Y.assign rfl) (by decide) ?_
      refine WL.nil ?_
      refine hK14 _ _ ?_; try clear hK14 K14
      refine CW.ret ⟨_, rfl, ?_⟩
      exact ⟨by rw [decide_eq_false (fun h => by subst h; rw [hpx] at hpy; injection hpy with hpy; subst hpy; simp at ht13)], hE⟩
 
    refine CW.skip ?_
    refine hK11 _ _ ?_; try clear hK11 K11
    refine CW.region ?_
    refine WL.val (Y.move rfl) (by decide) ?_
    refine WL.val (Y.add rfl rfl ⟨by omega, by omega⟩) (by decide) ?_
    refine WL.val (Y.assign rfl) (by decide) ?_
    refine WL.nil ?_
    have hpq : px = py := by simpa using ht13
    refine ⟨x + 1, by show xs.length - (x + 1) < xs.length - x; omega, (by repeat (first | exact Fr.le.nil | refine Fr.le.cons rfl ?_)), by show x + 1 ≤ xs.length; omega, ?_, hE⟩
    show xs.take (x + 1) = ys.take (x + 1)
    rw [Go.Pl.take_succ hpx, Go.Pl.take_succ hpy, hpre, hpq]
  refine CW.exit ?_
  refine hK6 _ _ ?_; try clear hK6 K6
  refine CW.seq fun K15 hK15 => ?_
  refine CW.region ?_
  refine WL.val (Y.assign rfl) (by decide) ?_
  refine WL.nil ?_
  refine hK15 _ _ ?_; try clear hK15 K15
  refine CW.ret ⟨_, rfl, ?_⟩
  exact ⟨by rw [decide_eq_true (by have h1 : xs.take x = xs := List.take_of_length_le (by omega); have h2 : ys.take x = ys := List.take_of_length_le (by omega); rw [← h1, ← h2]; exact hpre)], hE⟩
end Go.Proofs.Ytmndofgagngcgaa
