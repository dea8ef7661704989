/- Parts of a proof: what its last text leans on. No condition. -/
import Derived.Test.YtjbeooimhoilmaaDoorK14
import Derived.Test.YtjbeooimhoilmaaDoorK26
set_option linter.unusedSimpArgs false
set_option linter.unusedVariables false
/- HistoryAnyOrder, walked. No condition but bounds and the table of digest.keys. -/
namespace Go.Proofs.YtjbeooimhoilmaaDoor
open Go.RowKit Go.Fw Go.Pl Go.Sort Go.Fu
def turnV (l : List CoV) (o : List Dig) : List CoV := o.flatMap fun d => l.filter fun c => decide (idD c.c = d)
theorem csL_turn (l : List CoV) (o : List Dig) : csL (turnV l o) = turnL (csL l) o := by
  induction o with
  | nil => rfl
  | cons d o ih =>
    rw [turnV, List.flatMap_cons, csL, List.map_append, turnL, List.flatMap_cons]
    congr 1
    rw [csL, List.filter_map]; rfl
theorem turnV_succ {l : List CoV} {o : List Dig} {x : Nat} {d : Dig} (h : o[x]? = some d) : turnV l (o.take (x + 1)) = turnV l (o.take x) ++ l.filter fun c => decide (idD c.c = d) := by
  rw [turnV, take_succ h, List.flatMap_append]; simp [turnV]
theorem filt_succ {l : List CoV} {i : Nat} {c : CoV} {d : Dig} (h : l[i]? = some c) : (l.take (i + 1)).filter (fun c => decide (idD c.c = d)) = (l.take i).filter (fun c => decide (idD c.c = d)) ++ if idD c.c = d then [c] else [] := by
  rw [take_succ h, List.filter_append]
  by_cases hd : idD c.c = d <;> simp [hd]
theorem turnV_mem {l : List CoV} {o : List Dig} {x : CoV} (h : x ∈ turnV l o) : x ∈ l := by
  obtain ⟨d, _, h⟩ := List.mem_flatMap.1 h
  exact (List.mem_filter.1 h).1
theorem turnV_len (l : List CoV) (o : List Dig) : (turnV l o).length ≤ o.length * l.length := by
  induction o with
  | nil => simp [turnV]
  | cons d o ih =>
    rw [turnV, List.flatMap_cons, List.length_append, List.length_cons, Nat.succ_mul, Nat.add_comm]
    exact Nat.add_le_add ih (List.length_filter_le _ _)
theorem inner_len {l : List CoV} {o : List Dig} {i x : Nat} {d : Dig} (h : (csL l).length ≤ 200) (ho : o.length = (csL l).length) : ((turnV l (o.take i) ++ (l.take x).filter fun c => decide (idD c.c = d)).length * 4 + 1 * 4) * 80 ≤ 140737488355328 * 4 := by
  have h1 := turnV_len l (o.take i)
  have h2 := List.length_filter_le (fun c : CoV => decide (idD c.c = d)) (l.take x)
  rw [List.length_take] at h1 h2
  rw [List.length_map] at h ho
  have h3 : min i o.length * l.length ≤ 200 * 200 := Nat.mul_le_mul (by omega) h
  rw [List.length_append]
  omega
theorem hOrder_any (u va : Value) (ys : List NdV) (P : List ComD) (w : World) (hl : Nds w u ys) (his : ndsL ys = ndsH P) (hk : HOk P) (hp : P.length ≤ 200) (ha : Sl w digC 32 va (idsH P)) : Calls Tryd.prog 22 #[u, va] w (Ret fun v w' => ∃ hv, v = .tuple #[hv, .int .i64 0] ∧ Sl w' digC 32 hv (ordL (ndsH P) (idsH P)) ∧ Ext w w') :=
  (gOrder_any u va ys (idsH P) w hl ha).mono fun e w' he => by
    cases e with
    | returned v =>
      obtain ⟨hv, rfl, hO, _, hx⟩ := he
      rw [his] at hO ⊢
      have hi : ∀ d ∈ idsH P, d ∈ idsL (ndsH P) := fun d hd => by rw [ids_nds]; exact hd
      have hq : wrongQ (ndsH P) (idsH P) = 0 := by
        rw [wrongQ, if_neg (by rw [hk.nodes hp]; decide), if_neg]
        rintro ⟨d, hd, hn⟩
        exact hn (hi d hd)
      rw [if_pos hq, order_marks (hk.nodes hp) hi] at hO
      exact ⟨hv, by rw [hq], hO.sl digC_length (by decide), hx⟩
    | panicked c => exact he
    | outgrown => exact he
set_option maxRecDepth 100000 in
set_option maxHeartbeats 4000000 in
theorem hanyorder_any (u0 s1 s2 : Value) (l : List CoV) (a b : List Int) (w : World) (hl : Hcs w u0 l) (h1 : Sl w i1C 1 s1 a) (h2 : Sl w i1C 1 s2 b) (hna : a.length ≤ 1048576) (hnb : b.length ≤ 1048576) (hK : Mem w ⟨0, 0, none⟩ (wds keysL)) : Calls Tryd.prog 6 #[u0, s1, s2] w (Ret fun v w' => v = .bool true ∧ Ext w w') := by
  obtain ⟨A2, m2, c2, rfl, hlm, hmc, hcm, hlg⟩ := id hl.sl
  unfold maxLen at hcm
  have hcl : (csL l).length = m2 := by rw [List.length_map]; exact hlm
  refine calls_of_CW 160 [6] [(0, .slice A2 m2 c2), (1, s1), (2, s2)] Tryd.func6 rfl rfl rfl (by simp) args3 ?_
  have hE : Ext w w := Chg.refl
  refine CW.seq fun K1 hK1 => ?_
  refine CW.region ?_
  refine WL.val (Y.assign rfl) (by decide) ?_
  refine WL.nil ?_
  refine hK1 _ _ ?_; try clear hK1 K1
  refine CW.seq fun K2 hK2 => ?_
  refine CW.region ?_
  refine WL.val (Y.move rfl) (by decide) ?_
  refine WL.call Tryd.func21 rfl rfl rfl (hnodes_any _ l _ hl hK) (by simp) ?_; rintro v31 w1 hR1
  obtain ⟨A3, c3, ys, rfl, hQ, hys, hx1⟩ := hR1
  have hz1 := hx1.size
  have hE0 := hx1
  have hl := hl.ext hx1
  have h1 := h1.ext hx1
  have h2 := h2.ext hx1
  have hK := hK.ext hx1
  clear hE
  have hE : Ext w1 w1 := Chg.refl
  refine WL.val (Y.move rfl) (by decide) ?_
  refine WL.val (Y.extract rfl rfl) (by decide) ?_
  refine WL.val (Y.extract rfl rfl) (by decide) ?_
  refine WL.val (Y.assign rfl) (by decide) ?_
  refine WL.val (Y.assign rfl) (by decide) ?_
  refine WL.nil ?_
  refine hK2 _ _ ?_; try clear hK2 K2
  refine CW.seq fun K3 hK3 => ?_
  refine CW.seq fun K4 hK4 => ?_
  refine CW.region ?_
  refine WL.val (Y.move rfl) (by decide) ?_
  refine WL.val (Y.neq rfl rfl) (by decide) ?_
  refine WL.nil ?_
  refine hK4 _ _ ?_; try clear hK4 K4
  first | refine CW.condD rfl (fun ht5 => ?_) (fun ht5 => ?_) | refine CW.condND rfl (fun ht5 => ?_) (fun ht5 => ?_) | refine CW.condN rfl (fun ht5 => ?_) (fun ht5 => ?_) | refine CW.cond rfl (fun ht5 => ?_) (fun ht5 => ?_)
  · -- then
    refine CW.seq fun K6 hK6 => ?_
    refine CW.region ?_
    refine WL.val (Y.move rfl) (by decide) ?_
    refine WL.val (Y.len_slice Tryd.underlying56 rfl) (by decide) ?_
    refine WL.val (Y.eql rfl rfl) (by decide) ?_
    refine WL.val (Y.move rfl) (by decide) ?_
    first | refine WL.casesD (d := 39) rfl (fun hg39 => ?_) (fun hg39 => ?_) | refine WL.casesND (d := 39) rfl (fun hg39 => ?_) (fun hg39 => ?_) | refine WL.cases (d := 39) rfl (fun hg39 => ?_) (fun hg39 => ?_)
    · -- t39 = T
      refine WL.gcall rfl rfl Tryd.func10 rfl rfl rfl (halive_any _ (hK.ext hE)) (by decide) ?_; rintro v w2 ⟨rfl, hx2⟩; have hz2 := hx2.size; have hE := hE.thenExt hx2
      refine WL.val (Y.pick rfl rfl) (by decide) ?_
      refine WL.val (Y.assign rfl) (by decide) ?_
      refine WL.nil ?_
      refine hK6 _ _ ?_; try clear hK6 K6
      refine CW.ret ⟨_, rfl, ?_⟩
      exact ⟨rfl, hE0.thenExt hE⟩
    · -- t39 = F
      refine WL.goff rfl rfl (by decide) ?_
      refine WL.val (Y.pick rfl rfl) (by decide) ?_
      refine WL.val (Y.assign rfl) (by decide) ?_
      refine WL.nil ?_
      refine hK6 _ _ ?_; try clear hK6 K6
      refine CW.ret ⟨_, rfl, ?_⟩
      exfalso
      rw [if_neg (by assumption)] at hys
      have h9 := congrArg List.length hys
      simp at h9
      simp_all
  refine CW.skip ?_
  refine hK3 _ _ ?_; try clear hK3 K3
  refine CW.seq fun K7 hK7 => ?_
  have h0_ : (rdH (csL l)).2 = 0 := Decidable.not_not.1 (by assumption)
  obtain ⟨hp_, hk_⟩ := rdH_ok.1 h0_
  rw [if_pos h0_] at hys
  have hN := hQ.nds
  have hyl : ys.length = m2 := by have := congrArg List.length hys; rw [← hcl]; simpa using this
  obtain ⟨htk_, htl_, hts_, hol_⟩ := turn_ok hk_ hp_
  refine CW.region ?_
  refine WL.val (Y.assign rfl) (by decide) ?_
  refine WL.nil ?_
  refine hK7 _ _ ?_; try clear hK7 K7
  refine CW.seq fun K8 hK8 => ?_
  refine CW.seq fun K9 hK9 => ?_
  refine CW.region ?_
  refine WL.val (Y.move rfl) (by decide) ?_
  refine WL.val (Y.len_slice Tryd.underlying56 rfl) (by decide) ?_
  refine WL.val (Y.move rfl) (by decide) ?_
  refine WL.nil ?_
  refine hK9 _ _ ?_; try clear hK9 K9
  refine CW.block ?_
  refine CW.loop (X := Nat × Value) (fun x => [(0, .slice A2 m2 c2), (1, s1), (2, s2), (7, .slice A3 ys.length c3), (9, x.2), (43, .int .i64 (ys.length : Int)), (44, .int .i64 (x.1 : Int))]) (fun x w0 => x.1 ≤ ys.length ∧ Own w0 TDg 32 x.2 (flatD ((idsH (csL l)).take x.1)) ∧ (∀ k, x.2.ownBlock = some k → w1.heap.size ≤ k) ∧ Ext w1 w0) (fun x => ys.length - x.1) (0, .slice none 0 0) (by repeat (first | exact Fr.le.nil | refine Fr.le.cons rfl ?_)) ⟨Nat.zero_le _, Own.nil, (fun k h => by simp [Value.ownBlock] at h), hE⟩ ?_
  intro x w3 hl3
  clear hE
  obtain ⟨x, v⟩ := x
  dsimp only at hl3 ⊢
  obtain ⟨hxm, hO, hfu, hE⟩ := hl3
  have hzE := hE.size
  have hOlt := hO.lt
  refine CW.seq fun K10 hK10 => ?_
  refine CW.region ?_
  refine WL.val (Y.lss rfl rfl) (by decide) ?_
  refine WL.nil ?_
  refine hK10 _ _ ?_; try clear hK10 K10
  refine CW.seq fun K11 hK11 => ?_
  first | refine CW.condD rfl (fun ht12 => ?_) (fun ht12 => ?_) | refine CW.condND rfl (fun ht12 => ?_) (fun ht12 => ?_) | refine CW.condN rfl (fun ht12 => ?_) (fun ht12 => ?_) | refine CW.cond rfl (fun ht12 => ?_) (fun ht12 => ?_)
  · -- then
    refine CW.skip ?_
    refine hK11 _ _ ?_; try clear hK11 K11
    refine CW.seq fun K13 hK13 => ?_
    refine CW.block ?_
    refine CW.seq fun K14 hK14 => ?_
    refine CW.region ?_
    refine WL.val (Y.move rfl) (by decide) ?_
    refine WL.val (Y.assign rfl) (by decide) ?_
    refine WL.nil ?_
    refine hK14 _ _ ?_; try clear hK14 K14
    obtain ⟨y, hy⟩ : ∃ y, ys[x]? = some y := ⟨_, List.getElem?_eq_getElem (by omega)⟩
    obtain ⟨⟨yid, yps⟩, yA, yc⟩ := y
    have hyi : (idsH (csL l))[x]? = some yid := by
      have h9 : (ndsL ys)[x]? = some ⟨yid, yps⟩ := by simp [hy]
      rw [hys] at h9
      rw [← ids_nds, idsL, List.getElem?_map, h9]; rfl
    obtain ⟨a, rfl, hma⟩ := hN.sl.at hy
    refine CW.region ?_
    refine WL.val (Y.move rfl) (by decide) ?_
    refine WL.val (Y.move rfl) (by decide) ?_
    refine WL.val (Y.move rfl) (by decide) ?_
    refine WL.val (Y.indexAddrN Tryd.underlying56 rfl rfl sz0_apiNode (by omega)) (by decide) ?_
    refine WL.val (Y.fieldAddr fo_apiNode0 rfl) (by decide) ?_
    refine WL.val (Y.load Tryd.underlying48 rfl (hma.ext hE).node0 (sz_apiDigest _) rfl) (by decide) ?_
    refine WL.st (St.buildSlice rfl (bs1_dig yid)) (by decide) fun v53 w4 hR4 => ?_
    obtain ⟨g53, rfl, hg53, hB53, hx4⟩ := hR4
    have hz4 := hx4.size
    have hE := hE.thenExt hx4
    refine WL.st (St.append (m := 1) Tryd.underlying25 Tryd.underlying25 ai_dig rfl rfl (hO.ext hx4) (Fw.Src.one hB53 (digC_length _)) one_digC (by rw [flat_length digC_length, List.length_take]; omega)) (by decide) fun v54 w5 hR5 => ?_
    obtain ⟨hO5, hc5, hf5⟩ := hR5
    have hz5 := hc5.size
    have hE := hE.step hc5 (fun k h => by have := hfu k h; omega)
    have hfu5 : ∀ k, v54.ownBlock = some k → w1.heap.size ≤ k := fun k hk => by
      rcases hf5 with h | h
      · exact hfu k (h ▸ hk)
      · have := h k hk; omega
    refine WL.val (Y.assign rfl) (by decide) ?_
    refine WL.nil ?_
    refine hK13 _ _ ?_; try clear hK13 K13
    refine CW.region ?_
    refine WL.val (Y.add rfl rfl ⟨by omega, by omega⟩) (by decide) ?_
    refine WL.val (Y.move rfl) (by decide) ?_
    refine WL.nil ?_
    refine ⟨(x + 1, v54), by show ys.length - (x + 1) < ys.length - x; omega, (by repeat (first | exact Fr.le.nil | refine Fr.le.cons rfl ?_)), by show x + 1 ≤ ys.length; omega, ?_, hfu5, hE⟩
    show Own w5 TDg 32 v54 (flatD ((idsH (csL l)).take (x + 1)))
    rw [take_succ hyi]; simpa [flatD] using hO5
  refine CW.exit ?_
  refine hK8 _ _ ?_; try clear hK8 K8
  refine CW.seq fun K15 hK15 => ?_
  have e_ : (idsH (csL l)).take x = idsH (csL l) := List.take_of_length_le (by rw [List.length_map]; omega)
  rw [e_] at hO
  have hi9 := hO.sl digC_length (by decide)
  refine CW.region ?_
  refine WL.val (Y.move rfl) (by decide) ?_
  refine WL.val (Y.move rfl) (by decide) ?_
  refine WL.call Tryd.func22 rfl rfl rfl (hOrder_any _ _ ys (csL l) _ (hN.ext hE) hys hk_ hp_ hi9) (by simp) ?_; rintro v59 w6 hR6
  obtain ⟨hv6, rfl, hO6, hx6⟩ := hR6
  have hz6 := hx6.size
  have hE := hE.thenExt hx6
  obtain ⟨A5, m5, c5, rfl, hm5, hmc5, hcm5, hg5⟩ := id hO6
  unfold maxLen at hcm5
  have h5_ : m2 = m5 := by rw [← hm5, hol_, hcl]
  subst h5_
  have hE0 := hE0.thenExt hE
  have hl := hl.ext hE
  have h1 := h1.ext hE
  have h2 := h2.ext hE
  have hK := hK.ext hE
  have hN := hN.ext hE
  clear hE
  have hE : Ext w6 w6 := Chg.refl
  refine WL.val (Y.move rfl) (by decide) ?_
  refine WL.val (Y.extract rfl rfl) (by decide) ?_
  refine WL.val (Y.extract rfl rfl) (by decide) ?_
  refine WL.val (Y.assign rfl) (by decide) ?_
  refine WL.val (Y.assign rfl) (by decide) ?_
  refine WL.nil ?_
  refine hK15 _ _ ?_; try clear hK15 K15
  refine CW.seq fun K16 hK16 => ?_
  refine CW.seq_test 70 (False) ?_ ?_
  · refine CW.region ?_
    refine WL.val (Y.move rfl) (by decide) ?_
    refine WL.val (Y.neq rfl rfl) (by decide) ?_
    refine WL.val (Y.move rfl) (by decide) ?_
    first | refine WL.casesD (d := 64) rfl (fun hg64 => ?_) (fun hg64 => ?_) | refine WL.casesND (d := 64) rfl (fun hg64 => ?_) (fun hg64 => ?_) | refine WL.cases (d := 64) rfl (fun hg64 => ?_) (fun hg64 => ?_)
    · -- t64 = T
      refine WL.goff rfl rfl (by decide) ?_
      refine WL.goff rfl rfl (by decide) ?_
      refine WL.goff rfl rfl (by decide) ?_
      refine WL.goff rfl rfl (by decide) ?_
      refine WL.goff rfl rfl (by decide) ?_
      refine WL.val (Y.pick rfl rfl) (by decide) ?_
      refine WL.nil ⟨⟨_, rfl, ?_⟩, rfl, (by repeat (first | exact Fr.le.refl | refine Fr.le.push rfl ?_))⟩
      first | (simp only [*, Int.natCast_inj, Bool.not_eq_true', decide_eq_false_iff_not, decide_eq_true_eq, not_true_eq_false, not_false_eq_true, true_and, false_and, and_true, and_false, false_or, or_false, true_or, or_true, iff_true, true_iff, iff_false, false_iff]; done) | (simp_all; done) | (refine congrArg Value.bool (Bool.eq_iff_iff.2 ?_); simp_all; done) | (simp_all; omega)
    · -- t64 = F
      refine WL.gval rfl rfl (Y.move rfl) (by decide) ?_
      refine WL.gval rfl rfl (Y.len_slice Tryd.underlying25 rfl) (by decide) ?_
      refine WL.gval rfl rfl (Y.move rfl) (by decide) ?_
      refine WL.gval rfl rfl (Y.len_slice Tryd.underlying22 rfl) (by decide) ?_
      refine WL.gval rfl rfl (Y.neq rfl rfl) (by decide) ?_
      refine WL.val (Y.pick rfl rfl) (by decide) ?_
      refine WL.nil ⟨⟨_, rfl, ?_⟩, rfl, (by repeat (first | exact Fr.le.refl | refine Fr.le.push rfl ?_))⟩
      first | (simp only [*, Int.natCast_inj, Bool.not_eq_true', decide_eq_false_iff_not, decide_eq_true_eq, not_true_eq_false, not_false_eq_true, true_and, false_and, and_true, and_false, false_or, or_false, true_or, or_true, iff_true, true_iff, iff_false, false_iff]; done) | (simp_all; done) | (refine congrArg Value.bool (Bool.eq_iff_iff.2 ?_); simp_all; done) | (simp_all; omega)
  first | refine CW.condD rfl (fun ht17 => ?_) (fun ht17 => ?_) | refine CW.condND rfl (fun ht17 => ?_) (fun ht17 => ?_) | refine CW.condN rfl (fun ht17 => ?_) (fun ht17 => ?_) | refine CW.cond rfl (fun ht17 => ?_) (fun ht17 => ?_)
  · -- then
    refine CW.seq fun K18 hK18 => ?_
    refine CW.region ?_
    refine WL.val (Y.assign rfl) (by decide) ?_
    refine WL.nil ?_
    refine hK18 _ _ ?_; try clear hK18 K18
    refine CW.ret ⟨_, rfl, ?_⟩
    exact (by assumption : False).elim
  refine CW.skip ?_
  refine hK16 _ _ ?_; try clear hK16 K16
  refine CW.seq fun K19 hK19 => ?_
  refine CW.region ?_
  refine WL.val (Y.assign rfl) (by decide) ?_
  refine WL.nil ?_
  refine hK19 _ _ ?_; try clear hK19 K19
  refine CW.seq fun K20 hK20 => ?_
  refine CW.seq fun K21 hK21 => ?_
  refine CW.region ?_
  refine WL.val (Y.move rfl) (by decide) ?_
  refine WL.val (Y.len_slice Tryd.underlying25 rfl) (by decide) ?_
  refine WL.val (Y.move rfl) (by decide) ?_
  refine WL.nil ?_
  refine hK21 _ _ ?_; try clear hK21 K21
  refine CW.block ?_
  refine CW.loop (X := Nat × Value) (fun x => [(0, .slice A2 m2 c2), (1, s1), (2, s2), (7, .slice A3 ys.length c3), (13, x.2), (71, .slice A5 m2 c5), (72, .int .i64 (m2 : Int)), (73, .int .i64 (x.1 : Int))]) (fun x w0 => x.1 ≤ m2 ∧ Fw.Own w0 37 4 x.2 (((turnV l ((ordL (ndsH (csL l)) (idsH (csL l))).take x.1)).map coC).flatten) ∧ (∀ k, x.2.ownBlock = some k → w6.heap.size ≤ k) ∧ Ext w6 w0) (fun x => m2 - x.1) (0, .slice none 0 0) (by repeat (first | exact Fr.le.nil | refine Fr.le.cons rfl ?_)) ⟨Nat.zero_le _, Own.nil, (fun k h => by simp [Value.ownBlock] at h), hE⟩ ?_
  intro x w7 hl7
  clear hE
  obtain ⟨i, v13⟩ := x
  dsimp only at hl7 ⊢
  obtain ⟨him, hO, hfu, hE⟩ := hl7
  have hzE := hE.size
  have hOlt := hO.lt
  refine CW.seq fun K22 hK22 => ?_
  refine CW.region ?_
  refine WL.val (Y.lss rfl rfl) (by decide) ?_
  refine WL.nil ?_
  refine hK22 _ _ ?_; try clear hK22 K22
  refine CW.seq fun K23 hK23 => ?_
  first | refine CW.condD rfl (fun ht24 => ?_) (fun ht24 => ?_) | refine CW.condND rfl (fun ht24 => ?_) (fun ht24 => ?_) | refine CW.condN rfl (fun ht24 => ?_) (fun ht24 => ?_) | refine CW.cond rfl (fun ht24 => ?_) (fun ht24 => ?_)
  · -- then
    refine CW.skip ?_
    refine hK23 _ _ ?_; try clear hK23 K23
    refine CW.seq fun K25 hK25 => ?_
    refine CW.block ?_
    refine CW.seq fun K26 hK26 => ?_
    obtain ⟨d, hd⟩ : ∃ d, (ordL (ndsH (csL l)) (idsH (csL l)))[i]? = some d := ⟨_, List.getElem?_eq_getElem (by omega)⟩
    obtain ⟨a1, rfl, hmd⟩ := hg5 _ _ hd
    refine CW.region ?_
    refine WL.val (Y.indexAddrN Tryd.underlying25 rfl rfl sz0_apiDigest (by omega)) (by decide) ?_
    refine WL.val (Y.load Tryd.underlying48 rfl (hmd.ext hE) (sz_apiDigest _) rfl) (by decide) ?_
    refine as_apiDigest rfl (by simp) (by decide) fun g15 w8 hx8 hg15 hB15 => ?_
    have hlt15 := hB15.lt; have hz8 := hx8.size
    have hM15 := hB15.mem; have hz8 := hx8.size; have hE := hE.thenExt hx8
    refine WL.nil ?_
    refine hK26 _ _ ?_; try clear hK26 K26
    refine CW.seq fun K27 hK27 => ?_
    refine CW.region ?_
    refine WL.val (Y.move rfl) (by decide) ?_
    refine WL.val (Y.len_slice Tryd.underlying56 rfl) (by decide) ?_
    refine WL.val (Y.move rfl) (by decide) ?_
    refine WL.nil ?_
    refine hK27 _ _ ?_; try clear hK27 K27
    refine CW.block ?_
    refine CW.loop (X := Nat × Value) (fun x => [(0, .slice A2 m2 c2), (1, s1), (2, s2), (7, .slice A3 ys.length c3), (13, x.2), (71, .slice (some a1) m2 c5), (72, .int .i64 (m2 : Int)), (73, .int .i64 (i : Int)), (15, .pointer (some ⟨g15, 0, none⟩)), (78, .int .i64 (ys.length : Int)), (79, .int .i64 (x.1 : Int))]) (fun x w0 => x.1 ≤ ys.length ∧ Fw.Own w0 37 4 x.2 (((turnV l ((ordL (ndsH (csL l)) (idsH (csL l))).take i) ++ (l.take x.1).filter fun c => decide (idD c.c = d)).map coC).flatten) ∧ (∀ k, x.2.ownBlock = some k → w6.heap.size ≤ k ∧ k ≠ g15) ∧ Ext w6 w0 ∧ Blk w0 g15 48 (digC d) ∧ w8.heap.size ≤ w0.heap.size) (fun x => ys.length - x.1) (0, v13) (by repeat (first | exact Fr.le.nil | refine Fr.le.cons rfl ?_)) ⟨Nat.zero_le _, by simpa using hO.ext hx8, (fun k hk => by have := hfu k hk; have := hOlt k hk; exact ⟨by omega, by omega⟩), hE, hB15, Nat.le_refl _⟩ ?_
    intro x w9 hl9
    clear hE hB15
    obtain ⟨x, v⟩ := x
    dsimp only at hl9 ⊢
    obtain ⟨hxy, hO, hfu, hE, hB15, hz9⟩ := hl9
    have hzE := hE.size
    have hOlt := hO.lt
    have hlt15 := hB15.lt
    refine CW.seq fun K28 hK28 => ?_
    refine CW.region ?_
    refine WL.val (Y.lss rfl rfl) (by decide) ?_
    refine WL.nil ?_
    refine hK28 _ _ ?_; try clear hK28 K28
    refine CW.seq fun K29 hK29 => ?_
    first | refine CW.condD rfl (fun ht30 => ?_) (fun ht30 => ?_) | refine CW.condND rfl (fun ht30 => ?_) (fun ht30 => ?_) | refine CW.condN rfl (fun ht30 => ?_) (fun ht30 => ?_) | refine CW.cond rfl (fun ht30 => ?_) (fun ht30 => ?_)
    · -- then
      refine CW.skip ?_
      refine hK29 _ _ ?_; try clear hK29 K29
      obtain ⟨y, hy⟩ : ∃ y, ys[x]? = some y := ⟨_, List.getElem?_eq_getElem (by omega)⟩
      obtain ⟨⟨yid, yps⟩, yA, yc⟩ := y
      obtain ⟨cx, hcx⟩ : ∃ c, l[x]? = some c := ⟨_, List.getElem?_eq_getElem (by omega)⟩
      have hyi : yid = idD cx.c := by
        have h9 : (ndsL ys)[x]? = some ⟨yid, yps⟩ := by simp [hy]
        rw [hys, nds_at (cs_at hcx)] at h9
        injection h9 with h9
        injection h9 with h9 _
        exact h9.symm
      subst hyi
      obtain ⟨a, rfl, hma⟩ := hN.sl.at hy
      obtain ⟨a2, rfl, hmc_⟩ := hl.sl.at hcx
      refine CW.seq_to (X := Value) (fun v => [(0, .slice (some a2) m2 c2), (1, s1), (2, s2), (7, .slice (some a) ys.length c3), (13, v), (71, .slice (some a1) m2 c5), (72, .int .i64 (m2 : Int)), (73, .int .i64 (i : Int)), (15, .pointer (some ⟨g15, 0, none⟩)), (78, .int .i64 (ys.length : Int)), (79, .int .i64 (x : Int))]) (fun v w0 => Fw.Own w0 37 4 v (((turnV l ((ordL (ndsH (csL l)) (idsH (csL l))).take i) ++ (l.take (x + 1)).filter fun c => decide (idD c.c = d)).map coC).flatten) ∧ (∀ k, v.ownBlock = some k → w6.heap.size ≤ k ∧ k ≠ g15) ∧ Ext w6 w0 ∧ Blk w0 g15 48 (digC d) ∧ w8.heap.size ≤ w0.heap.size) ?_ ?_
      · skip
        refine CW.block ?_
        refine CW.seq fun K32 hK32 => ?_
        refine CW.region ?_
        refine WL.val (Y.move rfl) (by decide) ?_
        refine WL.val (Y.assign rfl) (by decide) ?_
        refine WL.nil ?_
        refine hK32 _ _ ?_; try clear hK32 K32
        refine CW.seq fun K33 hK33 => ?_
        refine CW.quiet (fun wq => Ext w9 wq) (by kernel_rfl) (by kernel_rfl) Chg.drew ?_
        refine QL.val (fun wq hq => Y.move rfl) (by decide) ?_
        refine QL.val (fun wq hq => Y.move rfl) (by decide) ?_
        refine QL.val (fun wq hq => Y.indexAddrN Tryd.underlying56 rfl rfl sz0_apiNode (by omega)) (by decide) ?_
        refine QL.val (fun wq hq => Y.fieldAddr fo_apiNode0 rfl) (by decide) ?_
        refine QL.val (fun wq hq => Y.load Tryd.underlying48 rfl ((hma.ext hE).ext hq).node0 (sz_apiDigest _) rfl) (by decide) ?_
        refine QL.val (fun wq hq => Y.load Tryd.underlying48 rfl (hB15.ext hq).mem (sz_apiDigest _) rfl) (by decide) ?_
        refine QL.val (fun wq hq => Y.eql_apiDigest rfl rfl) (by decide) ?_
        refine QL.nil fun w10 hx10 => ?_
        have hz10 := hx10.size
        have hE := hE.thenExt hx10
        have hB15 := hB15.ext hx10
        refine hK33 _ _ ?_; try clear hK33 K33
        first | refine CW.condD rfl (fun ht34 => ?_) (fun ht34 => ?_) | refine CW.condND rfl (fun ht34 => ?_) (fun ht34 => ?_) | refine CW.condN rfl (fun ht34 => ?_) (fun ht34 => ?_) | refine CW.cond rfl (fun ht34 => ?_) (fun ht34 => ?_)
        · -- then
          refine CW.region ?_
          refine WL.val (Y.move rfl) (by decide) ?_
          refine WL.val (Y.move rfl) (by decide) ?_
          refine WL.val (Y.move rfl) (by decide) ?_
          refine WL.val (Y.indexAddrN Tryd.underlying22 rfl rfl sz0_apiCommit (by omega)) (by decide) ?_
          refine WL.val (Y.load Tryd.underlying37 rfl (hmc_.ext hE) (sz_apiCommit _ _ _ _) rfl) (by decide) ?_
          refine WL.st (St.buildSlice rfl (bs1_co cx)) (by decide) fun v94 w11 hR11 => ?_
          obtain ⟨g94, rfl, hg94, hB94, hx11⟩ := hR11
          have hz11 := hx11.size
          have hE := hE.thenExt hx11
          have hB15 := hB15.ext hx11
          refine WL.st (St.append (m := 1) Tryd.underlying22 Tryd.underlying22 ai_co rfl rfl (hO.ext (hx10.thenExt hx11)) (Fw.Src.one hB94 rfl) (one_coF (l := [cx])) (by rw [flat_length coC_length]; exact inner_len hp_ hol_)) (by decide) fun v95 w12 hR12 => ?_
          obtain ⟨hO12, hc12, hf12⟩ := hR12
          have hz12 := hc12.size
          have hB15 := hB15.chg hc12 (fun h => (hfu _ h).2 rfl)
          have hE := hE.step hc12 (fun k h => by have := (hfu k h).1; omega)
          have hfu12 : ∀ k, v95.ownBlock = some k → w6.heap.size ≤ k ∧ k ≠ g15 := fun k hk => by
            rcases hf12 with h | h
            · exact hfu k (h ▸ hk)
            · have := h k hk; exact ⟨by omega, by omega⟩
          refine WL.val (Y.assign rfl) (by decide) ?_
          refine WL.nil ?_
          exact ⟨v95, (by repeat (first | exact Fr.le.nil | refine Fr.le.cons rfl ?_)), by rw [filt_succ hcx, if_pos (by assumption), ← List.append_assoc, List.map_append, List.flatten_append]; simpa using hO12, hfu12, hE, hB15, by omega⟩
        refine CW.skip ?_
        exact ⟨v, (by repeat (first | exact Fr.le.nil | refine Fr.le.cons rfl ?_)), by rw [filt_succ hcx, if_neg (by assumption), List.append_nil]; exact hO.ext hx10, hfu, hE, hB15, by omega⟩
      rintro u w13 hj13
      clear hE hB15
      obtain ⟨hO, hfu, hE, hB15, hz13⟩ := hj13
      refine CW.region ?_
      refine WL.val (Y.add rfl rfl ⟨by omega, by omega⟩) (by decide) ?_
      refine WL.val (Y.move rfl) (by decide) ?_
      refine WL.nil ?_
      exact ⟨(x + 1, u), by show ys.length - (x + 1) < ys.length - x; omega, (by repeat (first | exact Fr.le.nil | refine Fr.le.cons rfl ?_)), by show x + 1 ≤ ys.length; omega, hO, hfu, hE, hB15, hz13⟩
    refine CW.exit ?_
    refine hK25 _ _ ?_; try clear hK25 K25
    refine CW.region ?_
    refine WL.val (Y.add rfl rfl ⟨by omega, by omega⟩) (by decide) ?_
    refine WL.val (Y.move rfl) (by decide) ?_
    refine WL.nil ?_
    have e2_ : l.take x = l := List.take_of_length_le (by omega)
    rw [e2_] at hO
    refine ⟨(i + 1, v), by show m2 - (i + 1) < m2 - i; omega, (by repeat (first | exact Fr.le.nil | refine Fr.le.cons rfl ?_)), by show i + 1 ≤ m2; omega, ?_, (fun k hk => (hfu k hk).1), hE⟩
    show Fw.Own w9 37 4 v (((turnV l ((ordL (ndsH (csL l)) (idsH (csL l))).take (i + 1))).map coC).flatten)
    rw [turnV_succ hd]; exact hO
  refine CW.exit ?_
  refine hK20 _ _ ?_; try clear hK20 K20
  refine CW.seq fun K35 hK35 => ?_
  have e_ : (ordL (ndsH (csL l)) (idsH (csL l))).take i = (ordL (ndsH (csL l)) (idsH (csL l))) := List.take_of_length_le (by omega)
  rw [e_] at hO
  have hT : Hcs w7 v13 (turnV l (ordL (ndsH (csL l)) (idsH (csL l)))) := ⟨hO.sl coC_length (by decide), fun x hx => (hl.all x (turnV_mem hx)).ext hE⟩
  have hct : csL (turnV l (ordL (ndsH (csL l)) (idsH (csL l)))) = turnL (csL l) (ordL (ndsH (csL l)) (idsH (csL l))) := csL_turn l _
  have hchk : (rdH (csL (turnV l (ordL (ndsH (csL l)) (idsH (csL l)))))).2 = 0 := by rw [hct]; exact rdH_ok.2 ⟨by omega, htk_⟩
  have hE0 := hE0.thenExt hE
  have hl := hl.ext hE
  have h1 := h1.ext hE
  have h2 := h2.ext hE
  have hK := hK.ext hE
  clear hE
  have hE : Ext w7 w7 := Chg.refl
  refine CW.region ?_
  refine WL.val (Y.move rfl) (by decide) ?_
  refine WL.val (Y.move rfl) (by decide) ?_
  refine WL.call Tryd.func7 rfl rfl rfl (pick_any _ _ l a _ (hl.ext hE) (h1.ext hE) (by omega) (hK.ext hE)) (by simp) ?_; rintro v100 w14 hR14
  obtain ⟨hO14, hfu14, hx14⟩ := hR14
  have hz14 := hx14.size
  have hE := hE.thenExt hx14
  have hSx_ := hO14.sl digC_length (by decide)
  have hnx : (pickL (csL l) a).length = a.length := by rw [pickL, List.length_map]
  generalize pickL (csL l) a = ix at hSx_ hnx
  have hE0 := hE0.thenExt hE
  have hl := hl.ext hE
  have h2 := h2.ext hE
  have hK := hK.ext hE
  have hT := hT.ext hE
  clear hE
  have hE : Ext w14 w14 := Chg.refl
  have hSx := hSx_
  refine WL.val (Y.move rfl) (by decide) ?_
  refine WL.val (Y.move rfl) (by decide) ?_
  refine WL.call Tryd.func7 rfl rfl rfl (pick_any _ _ l b _ (hl.ext hE) (h2.ext hE) (by omega) (hK.ext hE)) (by simp) ?_; rintro v103 w15 hR15
  obtain ⟨hO15, hfu15, hx15⟩ := hR15
  have hz15 := hx15.size
  have hE := hE.thenExt hx15
  have hSy_ := hO15.sl digC_length (by decide)
  have hny : (pickL (csL l) b).length = b.length := by rw [pickL, List.length_map]
  generalize pickL (csL l) b = iy at hSy_ hny
  have hE0 := hE0.thenExt hE
  have hl := hl.ext hE
  have hK := hK.ext hE
  have hT := hT.ext hE
  have hSx := hSx.ext hE
  clear hE
  have hE : Ext w15 w15 := Chg.refl
  have hSy := hSy_
  refine WL.val (Y.assign rfl) (by decide) ?_
  refine WL.val (Y.assign rfl) (by decide) ?_
  refine WL.nil ?_
  refine hK35 _ _ ?_; try clear hK35 K35
  refine CW.seq fun K36 hK36 => ?_
  have hsx_ := tx_same hk_ htk_ hp_ (by omega) (fun c => (hts_ c).symm) ix
  have hsm_ := mg_same hk_ htk_ hp_ (by omega) (fun c => (hts_ c).symm) ix iy
  refine CW.region ?_
  refine WL.val (Y.move rfl) (by decide) ?_
  refine WL.val (Y.move rfl) (by decide) ?_
  refine WL.call Tryd.func11 rfl rfl rfl (htext_any _ _ l ix _ (hl.ext hE) (hSx.ext hE) (hK.ext hE)) (by simp) ?_; rintro v w16 ⟨rfl, hx16⟩; have hz16 := hx16.size; have hE := hE.thenExt hx16
  refine WL.val (Y.move rfl) (by decide) ?_
  refine WL.val (Y.extract rfl rfl) (by decide) ?_
  refine WL.val (Y.extract rfl rfl) (by decide) ?_
  refine WL.val (Y.assign rfl) (by decide) ?_
  refine WL.val (Y.assign rfl) (by decide) ?_
  refine WL.nil ?_
  refine hK36 _ _ ?_; try clear hK36 K36
  refine CW.seq fun K37 hK37 => ?_
  refine CW.region ?_
  refine WL.val (Y.move rfl) (by decide) ?_
  refine WL.val (Y.move rfl) (by decide) ?_
  refine WL.call Tryd.func11 rfl rfl rfl (htext_any _ _ (turnV l (ordL (ndsH (csL l)) (idsH (csL l)))) ix _ (hT.ext hE) (hSx.ext hE) (hK.ext hE)) (by simp) ?_; rintro v w17 ⟨rfl, hx17⟩; have hz17 := hx17.size; have hE := hE.thenExt hx17
  refine WL.val (Y.move rfl) (by decide) ?_
  refine WL.val (Y.extract rfl rfl) (by decide) ?_
  refine WL.val (Y.extract rfl rfl) (by decide) ?_
  refine WL.val (Y.assign rfl) (by decide) ?_
  refine WL.val (Y.assign rfl) (by decide) ?_
  refine WL.nil ?_
  refine hK37 _ _ ?_; try clear hK37 K37
  refine CW.seq fun K38 hK38 => ?_
  refine CW.region ?_
  refine WL.val (Y.move rfl) (by decide) ?_
  refine WL.val (Y.move rfl) (by decide) ?_
  refine WL.val (Y.move rfl) (by decide) ?_
  refine WL.call Tryd.func8 rfl rfl rfl (hmerge_any _ _ _ l ix iy _ (hl.ext hE) (hSx.ext hE) (hSy.ext hE) (by omega) (hK.ext hE)) (by simp) ?_; rintro v120 w18 hR18
  obtain ⟨hv18, rfl, hO18, hfu18, hx18⟩ := hR18
  have hz18 := hx18.size
  have hE := hE.thenExt hx18
  have hM18 := hO18.sl digC_length (by decide)
  have hE0 := hE0.thenExt hE
  have hl := hl.ext hE
  have hK := hK.ext hE
  have hT := hT.ext hE
  have hSx := hSx.ext hE
  have hSy := hSy.ext hE
  clear hE
  have hE : Ext w18 w18 := Chg.refl
  refine WL.val (Y.move rfl) (by decide) ?_
  refine WL.val (Y.extract rfl rfl) (by decide) ?_
  refine WL.val (Y.extract rfl rfl) (by decide) ?_
  refine WL.val (Y.assign rfl) (by decide) ?_
  refine WL.val (Y.assign rfl) (by decide) ?_
  refine WL.nil ?_
  refine hK38 _ _ ?_; try clear hK38 K38
  refine CW.seq fun K39 hK39 => ?_
  refine CW.region ?_
  refine WL.val (Y.move rfl) (by decide) ?_
  refine WL.val (Y.move rfl) (by decide) ?_
  refine WL.val (Y.move rfl) (by decide) ?_
  refine WL.call Tryd.func8 rfl rfl rfl (hmerge_any _ _ _ (turnV l (ordL (ndsH (csL l)) (idsH (csL l)))) ix iy _ (hT.ext hE) (hSx.ext hE) (hSy.ext hE) (by omega) (hK.ext hE)) (by simp) ?_; rintro v127 w19 hR19
  obtain ⟨hv19, rfl, hO19, hfu19, hx19⟩ := hR19
  have hz19 := hx19.size
  have hE := hE.thenExt hx19
  have hM19 := hO19.sl digC_length (by decide)
  have hE0 := hE0.thenExt hE
  have hl := hl.ext hE
  have hK := hK.ext hE
  have hT := hT.ext hE
  have hM18 := hM18.ext hE
  clear hE
  have hE : Ext w19 w19 := Chg.refl
  refine WL.val (Y.move rfl) (by decide) ?_
  refine WL.val (Y.extract rfl rfl) (by decide) ?_
  refine WL.val (Y.extract rfl rfl) (by decide) ?_
  refine WL.val (Y.assign rfl) (by decide) ?_
  refine WL.val (Y.assign rfl) (by decide) ?_
  refine WL.nil ?_
  refine hK39 _ _ ?_; try clear hK39 K39
  refine CW.seq fun K40 hK40 => ?_
  refine CW.region ?_
  refine WL.val (Y.move rfl) (by decide) ?_
  refine WL.call Tryd.func13 rfl rfl rfl (hcheck_any _ (turnV l (ordL (ndsH (csL l)) (idsH (csL l)))) _ (hT.ext hE) (hK.ext hE)) (by simp) ?_; rintro v w20 ⟨rfl, hx20⟩; have hz20 := hx20.size; have hE := hE.thenExt hx20
  refine WL.val (Y.move rfl) (by decide) ?_
  refine WL.val (Y.extract rfl rfl) (by decide) ?_
  refine WL.val (Y.extract rfl rfl) (by decide) ?_
  refine WL.val (Y.assign rfl) (by decide) ?_
  refine WL.val (Y.assign rfl) (by decide) ?_
  refine WL.nil ?_
  refine hK40 _ _ ?_; try clear hK40 K40
  refine CW.seq fun K41 hK41 => ?_
  refine CW.region ?_
  refine WL.val (Y.move rfl) (by decide) ?_
  refine WL.val (Y.eql rfl rfl) (by decide) ?_
  refine WL.val (Y.move rfl) (by decide) ?_
  refine WL.know (d := 137) (u := .bool true) rfl (by rw [hchk]; rfl) ?_
  refine WL.gval rfl rfl (Y.move rfl) (by decide) ?_
  refine WL.gval rfl rfl (Y.move rfl) (by decide) ?_
  refine WL.gval rfl rfl (Y.eql_string rfl rfl) (by decide) ?_
  refine WL.val (Y.pick rfl rfl) (by decide) ?_
  refine WL.val (Y.move rfl) (by decide) ?_
  refine WL.know (d := 142) (u := .bool true) rfl (by rw [hct, ← hsx_.2]; simp) ?_
  refine WL.gval rfl rfl (Y.move rfl) (by decide) ?_
  refine WL.gval rfl rfl (Y.move rfl) (by decide) ?_
  refine WL.gval rfl rfl (Y.eql rfl rfl) (by decide) ?_
  refine WL.val (Y.pick rfl rfl) (by decide) ?_
  refine WL.val (Y.move rfl) (by decide) ?_
  refine WL.know (d := 147) (u := .bool true) rfl (by rw [hct, ← hsx_.1]; simp) ?_
  refine WL.gval rfl rfl (Y.move rfl) (by decide) ?_
  refine WL.gval rfl rfl (Y.move rfl) (by decide) ?_
  refine WL.gcall rfl rfl Tryd.func9 rfl rfl rfl (rSameD_any _ _ (mgL (csL l) ix iy) (mgL (csL (turnV l (ordL (ndsH (csL l)) (idsH (csL l))))) ix iy) _ (hM18.ext hE) (hM19.ext hE)) (by decide) ?_; rintro v w21 ⟨rfl, hx21⟩; have hz21 := hx21.size; have hE := hE.thenExt hx21
  refine WL.val (Y.pick rfl rfl) (by decide) ?_
  refine WL.val (Y.move rfl) (by decide) ?_
  refine WL.know (d := 152) (u := .bool true) rfl (by rw [hct, ← hsm_.2]; simp) ?_
  refine WL.gval rfl rfl (Y.move rfl) (by decide) ?_
  refine WL.gval rfl rfl (Y.move rfl) (by decide) ?_
  refine WL.gval rfl rfl (Y.eql rfl rfl) (by decide) ?_
  refine WL.val (Y.pick rfl rfl) (by decide) ?_
  refine WL.val (Y.move rfl) (by decide) ?_
  refine WL.know (d := 157) (u := .bool true) rfl (by rw [hct, ← hsm_.1]; simp) ?_
  refine WL.gcall rfl rfl Tryd.func10 rfl rfl rfl (halive_any _ (hK.ext hE)) (by decide) ?_; rintro v w22 ⟨rfl, hx22⟩; have hz22 := hx22.size; have hE := hE.thenExt hx22
  refine WL.val (Y.pick rfl rfl) (by decide) ?_
  refine WL.val (Y.assign rfl) (by decide) ?_
  refine WL.nil ?_
  refine hK41 _ _ ?_; try clear hK41 K41
  refine CW.ret ⟨_, rfl, ?_⟩
  exact ⟨rfl, hE0.thenExt hE⟩
end Go.Proofs.YtjbeooimhoilmaaDoor
