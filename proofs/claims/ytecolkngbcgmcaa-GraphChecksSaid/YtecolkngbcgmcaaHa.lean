/- The reference's Common, Within, Order, Lacks; the law's two, walked. No condition. -/
import Derived.Test.YtecolkngbcgmcaaGz
set_option linter.unusedSimpArgs false
set_option linter.unusedVariables false
namespace Go.Pl
open Go.Fw
theorem find_at {p : Dig → Bool} {all : List Dig} {i : Nat} {d : Dig} (h : all[i]? = some d) (hp : p d = true) (hno : ∀ y ∈ all.take i, p y = false) : all.find? p = some d := by
  obtain ⟨hlt, hd⟩ := List.getElem?_eq_some_iff.1 h
  rw [List.find?_eq_some_iff_append]
  refine ⟨hp, all.take i, all.drop (i + 1), ?_, fun a ha => by simp [hno a ha]⟩
  rw [← hd, ← List.drop_eq_getElem_cons hlt, List.take_append_drop]
theorem both_all {a b : List Dig} : (bothD a b).length = a.length ↔ ∀ d ∈ a, d ∈ b := by
  rw [bothD, List.length_filter_eq_length_iff]
  simp
end Go.Pl
namespace Go.Proofs.Ytecolkngbcgmcaa
open Go.RowKit Go.Fw Go.Pl Go.Sort
theorem one_flatD (l : List Dig) : ∀ u ∈ flatD l, u.oneCell' = true := by
  intro u hu
  obtain ⟨c, hc, hu⟩ := List.mem_flatten.1 hu
  obtain ⟨d, _, rfl⟩ := List.mem_map.1 hc
  exact one_digC u hu

theorem rCommon_any (u va vb : Value) (l : List NdV) (a b : List Dig) (w : World) (hl : Nds w u l) (hok : (readE (ndsL l)).2 = 0) (ha : Sl w digC 32 va a) (hb : Sl w digC 32 vb b) (hina : ∀ d ∈ a, d ∈ idsL (ndsL l)) (hinb : ∀ d ∈ b, d ∈ idsL (ndsL l)) : Calls Try.prog 30 #[u, va, vb] w (Ret fun v w' => Own w' TDg 32 v (flatD (headsR (ndsL l) (srtD (bothD (aboveL (ndsL l) a) (aboveL (ndsL l) b))))) ∧ (∀ k, v.ownBlock = some k → w.heap.size ≤ k) ∧ Ext w w') := by
  have hl0 := hl
  obtain ⟨A, c, rfl, hmc, hcm⟩ := hl.sl.lens
  unfold maxLen at hcm
  have ha0 := ha
  obtain ⟨A1, c1, rfl, hac, hax⟩ := ha.lens
  unfold maxLen at hax
  have hb0 := hb
  obtain ⟨A2, c2, rfl, hbc, hbx⟩ := hb.lens
  unfold maxLen at hbx
  have hnl : (ndsL l).length = l.length := by simp
  have hln := ok_len hok
  refine calls_of_CW 16 [6] [(0, .slice A l.length c), (1, .slice A1 a.length c1), (2, .slice A2 b.length c2)] Try.func30 rfl rfl rfl (by simp) args3 ?_
  have hE : Ext w w := Chg.refl
  refine CW.seq fun K1 hK1 => ?_
  refine CW.region ?_   -- region 0
  refine WL.val (Y.assign rfl) (by decide) ?_   -- t6 := assign c(nilslice)
  refine WL.nil ?_
  refine hK1 _ _ ?_; try clear hK1 K1
  refine CW.seq fun K2 hK2 => ?_
  refine CW.region ?_   -- region 1
  refine WL.val (Y.move rfl) (by decide) ?_   -- t7 := move t0
  refine WL.val (Y.move rfl) (by decide) ?_   -- t8 := move t0
  refine WL.val (Y.move rfl) (by decide) ?_   -- t9 := move t1
  refine WL.call Try.func34 rfl rfl rfl (rAbove_any _ _ l a _ hl0 hok ha0 hina) (by simp) ?_; rintro v10 w1 hR1   -- t10 := call F34(t8, t9) : 22,23
  obtain ⟨hO1, hf1, hx1⟩ := hR1
  have hz1 := hx1.size
  have hE := hE.thenExt hx1
  have hal := above_length (l := ndsL l) (ids := a)
  refine WL.val (Y.move rfl) (by decide) ?_   -- t11 := move t0
  refine WL.val (Y.move rfl) (by decide) ?_   -- t12 := move t2
  refine WL.call Try.func34 rfl rfl rfl (rAbove_any _ _ l b _ (hl0.ext hE) hok (hb0.ext hE) hinb) (by simp) ?_; rintro v13 w2 hR2   -- t13 := call F34(t11, t12) : 22,23
  obtain ⟨hO2, hf2, hx2⟩ := hR2
  have hz2 := hx2.size
  have hE := hE.thenExt hx2
  refine WL.call Try.func45 rfl rfl rfl (rboth_any _ _ _ _ _ ((hO1.ext hx2).sl digC_length (by decide)) (hO2.sl digC_length (by decide)) (by omega)) (by simp) ?_; rintro v14 w3 hR3   -- t14 := call F45(t10, t13) : 23,23
  obtain ⟨hO3, hf3, hx3⟩ := hR3
  have hz3 := hx3.size
  have hE := hE.thenExt hx3
  have hbl : (bothD (aboveL (ndsL l) a) (aboveL (ndsL l) b)).length ≤ (aboveL (ndsL l) a).length := List.length_filter_le _ _
  refine WL.call Try.func16 rfl rfl rfl (rHeads_any _ _ l _ _ (hl0.ext hE) hok (hO3.sl digC_length (by decide)) (fun d hd => under_ids hok hina ((above_mem hok hina).1 (List.mem_filter.1 hd).1)) (by omega)) (by simp) ?_; rintro v15 w4 hR4   -- t15 := call F16(t7, t14) : 22,23
  obtain ⟨hO4, hf4, hx4⟩ := hR4
  have hz4 := hx4.size
  have hE := hE.thenExt hx4
  refine WL.val (Y.assign rfl) (by decide) ?_   -- t6 := assign t15
  refine WL.nil ?_
  refine hK2 _ _ ?_; try clear hK2 K2
  refine CW.ret ⟨_, rfl, ?_⟩
  exact ⟨hO4, fun k hk => by have := hf4 k hk; omega, hE⟩
theorem rWithin_any (u va vb : Value) (l : List NdV) (a b : List Dig) (w : World) (hl : Nds w u l) (hok : (readE (ndsL l)).2 = 0) (ha : Sl w digC 32 va a) (hb : Sl w digC 32 vb b) (hinb : ∀ d ∈ b, d ∈ idsL (ndsL l)) (hp : a.length * 32 ≤ 140737488351232) : Calls Try.prog 31 #[u, va, vb] w (Ret fun v w' => v = .bool (decide (∀ d ∈ a, d ∈ aboveL (ndsL l) b)) ∧ Ext w w') := by
  have hl0 := hl
  obtain ⟨A, c, rfl, hmc, hcm⟩ := hl.sl.lens
  unfold maxLen at hcm
  have ha0 := ha
  obtain ⟨A1, c1, rfl, hac, hax⟩ := ha.lens
  unfold maxLen at hax
  have hb0 := hb
  obtain ⟨A2, c2, rfl, hbc, hbx⟩ := hb.lens
  unfold maxLen at hbx
  have hnl : (ndsL l).length = l.length := by simp
  have hln := ok_len hok
  refine calls_of_CW 16 [6] [(0, .slice A l.length c), (1, .slice A1 a.length c1), (2, .slice A2 b.length c2)] Try.func31 rfl rfl rfl (by simp) args3 ?_
  have hE : Ext w w := Chg.refl
  refine CW.seq fun K1 hK1 => ?_
  refine CW.region ?_   -- region 0
  refine WL.val (Y.assign rfl) (by decide) ?_   -- t6 := assign c(false)
  refine WL.nil ?_
  refine hK1 _ _ ?_; try clear hK1 K1
  refine CW.seq fun K2 hK2 => ?_
  refine CW.region ?_   -- region 1
  refine WL.val (Y.move rfl) (by decide) ?_   -- t7 := move t1
  refine WL.val (Y.move rfl) (by decide) ?_   -- t8 := move t0
  refine WL.val (Y.move rfl) (by decide) ?_   -- t9 := move t2
  refine WL.call Try.func34 rfl rfl rfl (rAbove_any _ _ l b _ hl0 hok hb0 hinb) (by simp) ?_; rintro v10 w1 hR1   -- t10 := call F34(t8, t9) : 22,23
  obtain ⟨hO1, hf1, hx1⟩ := hR1
  have hz1 := hx1.size
  have hE := hE.thenExt hx1
  refine WL.call Try.func45 rfl rfl rfl (rboth_any _ _ _ _ _ (ha0.ext hE) (hO1.sl digC_length (by decide)) hp) (by simp) ?_; rintro v11 w2 hR2   -- t11 := call F45(t7, t10) : 23,23
  obtain ⟨hO2, hf2, hx2⟩ := hR2
  have hz2 := hx2.size
  have hE := hE.thenExt hx2
  obtain ⟨B2, m2, c3, rfl⟩ := hO2.lens
  have hl2 := (hO2.len digC_length (by decide)).1
  subst hl2
  refine WL.val (Y.len_slice Try.underlying23 rfl) (by decide) ?_   -- t12 := call len(t11) : 23
  refine WL.val (Y.move rfl) (by decide) ?_   -- t13 := move t1
  refine WL.val (Y.len_slice Try.underlying23 rfl) (by decide) ?_   -- t14 := call len(t13) : 23
  refine WL.val (Y.eql rfl rfl) (by decide) ?_   -- t15 := binOp eql 3 t12 t14 3
  refine WL.val (Y.assign rfl) (by decide) ?_   -- t6 := assign t15
  refine WL.nil ?_
  refine hK2 _ _ ?_; try clear hK2 K2
  refine CW.ret ⟨_, rfl, ?_⟩
  refine ⟨?_, hE⟩
  congr 1
  rw [Bool.eq_iff_iff, decide_eq_true_iff, decide_eq_true_iff, ← both_all]
  omega
set_option maxHeartbeats 1000000 in
theorem rOrder_any (u v0 : Value) (l : List NdV) (ids : List Dig) (w : World) (hl : Nds w u l) (hok : (readE (ndsL l)).2 = 0) (hd : Sl w digC 32 v0 ids) (hin : ∀ d ∈ ids, d ∈ idsL (ndsL l)) : Calls Try.prog 24 #[u, v0] w (Ret fun v w' => Own w' TDg 32 v (flatD (ordL (ndsL l) ids)) ∧ (∀ k, v.ownBlock = some k → w.heap.size ≤ k) ∧ Ext w w') := by
  have hl0 := hl
  obtain ⟨A, c, rfl, hmc, hcm⟩ := hl.sl.lens
  unfold maxLen at hcm
  have hd0 := hd
  obtain ⟨A1, c1, rfl, hdc, hdx⟩ := hd.lens
  unfold maxLen at hdx
  have hnl : (ndsL l).length = l.length := by simp
  have hln := ok_len hok
  refine calls_of_CW 57 [4] [(0, .slice A l.length c), (1, .slice A1 ids.length c1)] Try.func24 rfl rfl rfl (by simp) args2 ?_
  have hE : Ext w w := Chg.refl
  refine CW.seq fun K1 hK1 => ?_
  refine CW.region ?_   -- region 0
  refine WL.val (Y.assign rfl) (by decide) ?_   -- t4 := assign c(nilslice)
  refine WL.nil ?_
  refine hK1 _ _ ?_; try clear hK1 K1
  refine CW.seq fun K2 hK2 => ?_
  refine CW.region ?_   -- region 1
  refine WL.val (Y.move rfl) (by decide) ?_   -- t9 := move t0
  refine WL.val (Y.move rfl) (by decide) ?_   -- t10 := move t1
  refine WL.call Try.func34 rfl rfl rfl (rAbove_any _ _ l ids _ hl0 hok hd0 hin) (by simp) ?_; rintro v11 w1 hR1   -- t11 := call F34(t9, t10) : 22,23
  obtain ⟨hO1, hf1, hx1⟩ := hR1
  have hz1 := hx1.size
  have hE := hE.thenExt hx1
  have hal := above_length (l := ndsL l) (ids := ids)
  have hup := above_up hok (ids := ids)
  have hai : ∀ d ∈ aboveL (ndsL l) ids, d ∈ idsL (ndsL l) := fun d h => under_ids hok hin ((above_mem hok hin).1 h)
  have hcl := under_closed hok hin
  obtain ⟨all, hall⟩ : ∃ a, a = aboveL (ndsL l) ids := ⟨_, rfl⟩
  rw [← hall] at hO1 hal hup hai hcl
  obtain ⟨B, mb, cb, rfl⟩ := hO1.lens
  obtain ⟨hlb, hmb, hcb⟩ := hO1.len digC_length (by decide)
  unfold maxLen at hcb
  have hS := hO1.sl digC_length (by decide)
  have hlt1 := hO1.lt
  subst hlb
  refine WL.val (Y.assign rfl) (by decide) ?_   -- t5 := assign t11
  refine WL.nil ?_
  refine hK2 _ _ ?_; try clear hK2 K2
  refine CW.seq fun K3 hK3 => ?_
  refine CW.region ?_   -- region 2
  refine WL.val (Y.assign rfl) (by decide) ?_   -- t6 := assign c(nilslice)
  refine WL.nil ?_
  refine hK3 _ _ ?_; try clear hK3 K3
  refine CW.seq fun K4 hK4 => ?_
  refine CW.block ?_   -- block 0
  refine CW.loop (X := Nat × Value × List Dig) (fun x => [(0, .slice A l.length c), (5, .slice B all.length cb), (6, x.2.1)]) (fun x w0 => Came (ndsL l) all x.2.2 ∧ ordL (ndsL l) ids = orderQ (ndsL l) all x.1 x.2.2 ∧ x.2.2.length + x.1 = l.length + 1 ∧ Own w0 TDg 32 x.2.1 (flatD x.2.2) ∧ (∀ k, x.2.1.ownBlock = some k → w1.heap.size ≤ k) ∧ Sl w0 digC 32 (.slice B all.length cb) all ∧ Ext w w0 ∧ w1.heap.size ≤ w0.heap.size) (fun x => x.1) (l.length + 1, .slice none 0 0, []) (by repeat (first | exact Fr.le.nil | refine Fr.le.cons rfl ?_)) ⟨Came.nil, by rw [ordL, hnl, hall], by simp, Own.nil, (fun k h => by simp [Value.ownBlock] at h), hS, hE, Nat.le_refl _⟩ ?_
  intro x w2 hl2
  clear hE hS
  obtain ⟨fu, v, out⟩ := x
  dsimp only at hl2 ⊢
  obtain ⟨hcame, hord, hfo, hO, hfu, hS, hE, hz2⟩ := hl2
  have hole := hcame.le
  obtain ⟨B2, mb2, cb2, rfl⟩ := hO.lens
  have hlo := hO.lt
  have hl2 := (hO.len digC_length (by decide)).1
  subst hl2
  refine CW.seq fun K5 hK5 => ?_
  refine CW.seq fun K6 hK6 => ?_
  refine CW.region ?_   -- region 3
  refine WL.val (Y.move rfl) (by decide) ?_   -- t12 := move t6
  refine WL.val (Y.len_slice Try.underlying23 rfl) (by decide) ?_   -- t13 := call len(t12) : 23
  refine WL.val (Y.move rfl) (by decide) ?_   -- t14 := move t5
  refine WL.val (Y.len_slice Try.underlying23 rfl) (by decide) ?_   -- t15 := call len(t14) : 23
  refine WL.val (Y.lss rfl rfl) (by decide) ?_   -- t16 := binOp lss 3 t13 t15 3
  refine WL.nil ?_
  refine hK6 _ _ ?_; try clear hK6 K6
  first | refine CW.condD rfl (fun ht7 => ?_) (fun ht7 => ?_) | refine CW.condND rfl (fun ht7 => ?_) (fun ht7 => ?_) | refine CW.condN rfl (fun ht7 => ?_) (fun ht7 => ?_) | refine CW.cond rfl (fun ht7 => ?_) (fun ht7 => ?_)
  · -- then
    refine CW.skip ?_
    refine hK5 _ _ ?_; try clear hK5 K5
    refine CW.block ?_   -- block 1
    refine CW.seq fun K8 hK8 => ?_
    refine CW.region ?_   -- region 4
    refine WL.val (Y.assign rfl) (by decide) ?_   -- t7 := assign c(0:i64)
    refine WL.nil ?_
    refine hK8 _ _ ?_; try clear hK8 K8
    refine CW.block ?_   -- block 2
    refine CW.loop (X := Nat) (fun x => [(0, .slice A l.length c), (5, .slice B all.length cb), (6, .slice B2 out.length cb2), (7, .int .i64 (x : Int))]) (fun x w0 => x ≤ all.length ∧ (∀ y ∈ all.take x, mayQ (ndsL l) out y = false) ∧ Ext w2 w0) (fun x => all.length - x) 0 (by repeat (first | exact Fr.le.nil | refine Fr.le.cons rfl ?_)) ⟨Nat.zero_le _, (fun y h => by simp at h), Chg.refl⟩ ?_
    intro x w3 hl3
    obtain ⟨hxl, hno, hx3⟩ := hl3
    have hz3 := hx3.size
    have hE2 := hE
    have hE := hE.thenExt hx3
    have hS := hS.ext hx3
    have hO := hO.ext hx3
    refine CW.seq fun K9 hK9 => ?_
    refine CW.seq fun K10 hK10 => ?_
    refine CW.region ?_   -- region 5
    refine WL.val (Y.move rfl) (by decide) ?_   -- t17 := move t7
    refine WL.val (Y.move rfl) (by decide) ?_   -- t18 := move t5
    refine WL.val (Y.len_slice Try.underlying23 rfl) (by decide) ?_   -- t19 := call len(t18) : 23
    refine WL.val (Y.lss rfl rfl) (by decide) ?_   -- t20 := binOp lss 3 t17 t19 3
    refine WL.nil ?_
    refine hK10 _ _ ?_; try clear hK10 K10
    first | refine CW.condD rfl (fun ht11 => ?_) (fun ht11 => ?_) | refine CW.condND rfl (fun ht11 => ?_) (fun ht11 => ?_) | refine CW.condN rfl (fun ht11 => ?_) (fun ht11 => ?_) | refine CW.cond rfl (fun ht11 => ?_) (fun ht11 => ?_)
    · -- then
      refine CW.skip ?_
      refine hK9 _ _ ?_; try clear hK9 K9
      refine CW.seq fun K12 hK12 => ?_
      refine CW.block ?_   -- block 3
      refine CW.seq fun K13 hK13 => ?_
      obtain ⟨d, hdx⟩ : ∃ d, all[x]? = some d := ⟨_, List.getElem?_eq_getElem (by omega)⟩
      obtain ⟨aB, rfl, hmd⟩ := hS.at hdx
      have hdi := hai d (List.mem_of_getElem? hdx)
      obtain ⟨n0, hn0, hnid⟩ := at_ixN hdi
      have hix := ixN_lt hdi
      obtain ⟨y, hy⟩ : ∃ y, l[ixN (ndsL l) d]? = some y := ⟨_, List.getElem?_eq_getElem (by omega)⟩
      have hyn : (ndsL l)[ixN (ndsL l) d]? = some y.n := by simp [hy]
      obtain ⟨⟨id, ps⟩, Ay, cy⟩ := y
      obtain ⟨aN, rfl, hmn⟩ := hl0.sl.at hy
      have hps := hl0.ps _ (List.mem_of_getElem? hy)
      dsimp only [NdV.pv] at hps hyn
      have hp8 : ps.length ≤ 8 := (wrong_ok (ok_at hok hyn)).1
      have hpar : parD (ndsL l) d = ps := by rw [parD, hyn]; rfl
      have hmq : mayQ (ndsL l) out d = true ↔ ¬ d ∈ out ∧ (bothD ps out).length = ps.length := by rw [mayQ_iff, both_all, hpar]
      refine CW.region ?_   -- region 7
      refine WL.val (Y.move rfl) (by decide) ?_   -- t23 := move t0
      refine WL.val (Y.move rfl) (by decide) ?_   -- t24 := move t0
      refine WL.val (Y.move rfl) (by decide) ?_   -- t25 := move t5
      refine WL.val (Y.move rfl) (by decide) ?_   -- t26 := move t7
      refine WL.val (Y.indexAddrN Try.underlying23 rfl rfl sz0_apiDigest (by omega)) (by decide) ?_   -- t27 := indexAddr 23 t25 t26
      refine WL.val (Y.load Try.underlying45 rfl hmd (sz_apiDigest _) rfl) (by decide) ?_   -- t28 := load 45 t27
      refine WL.call Try.func26 rfl rfl rfl (rFindIn_any _ l d _ (hl0.ext hE) hdi) (by simp) ?_; rintro v w4 ⟨rfl, hx4⟩; have hz4 := hx4.size; have hE := hE.thenExt hx4   -- t29 := call F26(t24, t28) : 22,45
      refine WL.val (Y.indexAddrN Try.underlying22 rfl rfl sz0_apiNode (by omega)) (by decide) ?_   -- t30 := indexAddr 22 t23 t29
      refine WL.val (Y.fieldAddr fo_apiNode1 rfl) (by decide) ?_   -- t31 := fieldAddr 48 t30 1
      refine WL.val (Y.load1 Try.underlying23 rfl (hmn.ext hE).node1 rfl) (by decide) ?_   -- t32 := load 23 t31
      refine WL.val (Y.assign rfl) (by decide) ?_   -- t8 := assign t32
      refine WL.nil ?_
      refine hK13 _ _ ?_; try clear hK13 K13
      refine CW.seq_testE 48 (¬ d ∈ out ∧ (bothD ps out).length = ps.length) ?_ ?_
      · refine CW.region ?_
        refine WL.val (Y.move rfl) (by decide) ?_   -- t33 := move t6
        refine WL.val (Y.move rfl) (by decide) ?_   -- t34 := move t5
        refine WL.val (Y.move rfl) (by decide) ?_   -- t35 := move t7
        refine WL.val (Y.indexAddrN Try.underlying23 rfl rfl sz0_apiDigest (by omega)) (by decide) ?_   -- t36 := indexAddr 23 t34 t35
        refine WL.val (Y.load Try.underlying45 rfl (hmd.ext hx4) (sz_apiDigest _) rfl) (by decide) ?_   -- t37 := load 45 t36
        refine WL.call Try.func27 rfl rfl rfl (rIn_any _ out d _ ((hO.ext hx4).sl digC_length (by decide))) (by simp) ?_; rintro v w5 ⟨rfl, hx5⟩; have hz5 := hx5.size; have hE := hE.thenExt hx5   -- t38 := call F27(t33, t37) : 23,45
        refine WL.val (Y.not rfl) (by decide) ?_   -- t39 := unOp not 4 t38
        refine WL.val (Y.move rfl) (by decide) ?_   -- t40 := move t39
        first | refine WL.casesD (d := 40) rfl (fun hg40 => ?_) (fun hg40 => ?_) | refine WL.casesND (d := 40) rfl (fun hg40 => ?_) (fun hg40 => ?_) | refine WL.cases (d := 40) rfl (fun hg40 => ?_) (fun hg40 => ?_)
        · -- t40 = T
          refine WL.gval rfl rfl (Y.move rfl) (by decide) ?_   -- t41 := move t8 [if 7=true]
          refine WL.gval rfl rfl (Y.move rfl) (by decide) ?_   -- t42 := move t6 [if 7=true]
          refine WL.gcall rfl rfl Try.func45 rfl rfl rfl (rboth_any _ _ ps out _ (hps.ext hE) (((hO.ext hx4).ext hx5).sl digC_length (by decide)) (by omega)) (by decide) ?_; rintro v43 w6 hR6   -- t43 := call F45(t41, t42) : 23,23 [if 7=true]
          obtain ⟨hO6, hf6, hx6⟩ := hR6
          have hz6 := hx6.size
          have hE := hE.thenExt hx6
          obtain ⟨B6, m6, c6, rfl⟩ := hO6.lens
          have hl6 := (hO6.len digC_length (by decide)).1
          subst hl6
          refine WL.gval rfl rfl (Y.len_slice Try.underlying23 rfl) (by decide) ?_   -- t44 := call len(t43) : 23 [if 7=true]
          refine WL.gval rfl rfl (Y.move rfl) (by decide) ?_   -- t45 := move t8 [if 7=true]
          refine WL.gval rfl rfl (Y.len_slice Try.underlying23 rfl) (by decide) ?_   -- t46 := call len(t45) : 23 [if 7=true]
          refine WL.gval rfl rfl (Y.eql rfl rfl) (by decide) ?_   -- t47 := binOp eql 3 t44 t46 3 [if 7=true]
          refine WL.val (Y.pick rfl rfl) (by decide) ?_   -- t48 := pick t40 t47 c(false)
          refine WL.nil ⟨⟨_, rfl, ?_⟩, (hx5.thenExt hx6), (by repeat (first | exact Fr.le.refl | refine Fr.le.push rfl ?_))⟩
          first | (simp only [*, Int.natCast_inj, Bool.not_eq_true', decide_eq_false_iff_not, decide_eq_true_eq, not_true_eq_false, not_false_eq_true, true_and, false_and, and_true, and_false, false_or, or_false, true_or, or_true, iff_true, true_iff, iff_false, false_iff]; done) | (simp_all; done) | (refine congrArg Value.bool (Bool.eq_iff_iff.2 ?_); simp_all; done) | (simp_all; omega)
        · -- t40 = F
          refine WL.goff rfl rfl (by decide) ?_   -- t41 := move t8 [if 7=true]
          refine WL.goff rfl rfl (by decide) ?_   -- t42 := move t6 [if 7=true]
          refine WL.goff rfl rfl (by decide) ?_   -- t43 := call F45(t41, t42) : 23,23 [if 7=true]
          refine WL.goff rfl rfl (by decide) ?_   -- t44 := call len(t43) : 23 [if 7=true]
          refine WL.goff rfl rfl (by decide) ?_   -- t45 := move t8 [if 7=true]
          refine WL.goff rfl rfl (by decide) ?_   -- t46 := call len(t45) : 23 [if 7=true]
          refine WL.goff rfl rfl (by decide) ?_   -- t47 := binOp eql 3 t44 t46 3 [if 7=true]
          refine WL.val (Y.pick rfl rfl) (by decide) ?_   -- t48 := pick t40 t47 c(false)
          refine WL.nil ⟨⟨_, rfl, ?_⟩, hx5, (by repeat (first | exact Fr.le.refl | refine Fr.le.push rfl ?_))⟩
          first | (simp only [*, Int.natCast_inj, Bool.not_eq_true', decide_eq_false_iff_not, decide_eq_true_eq, not_true_eq_false, not_false_eq_true, true_and, false_and, and_true, and_false, false_or, or_false, true_or, or_true, iff_true, true_iff, iff_false, false_iff]; done) | (simp_all; done) | (refine congrArg Value.bool (Bool.eq_iff_iff.2 ?_); simp_all; done) | (simp_all; omega)
      intro w7 hx7; have hz7 := hx7.size; have hE := hE.thenExt hx7
      first | refine CW.condD rfl (fun ht14 => ?_) (fun ht14 => ?_) | refine CW.condND rfl (fun ht14 => ?_) (fun ht14 => ?_) | refine CW.condN rfl (fun ht14 => ?_) (fun ht14 => ?_) | refine CW.cond rfl (fun ht14 => ?_) (fun ht14 => ?_)
      · -- then
        refine CW.seq fun K15 hK15 => ?_
        refine CW.region ?_   -- region 9
        refine WL.val (Y.move rfl) (by decide) ?_   -- t49 := move t6
        refine WL.val (Y.move rfl) (by decide) ?_   -- t50 := move t5
        refine WL.val (Y.move rfl) (by decide) ?_   -- t51 := move t7
        refine WL.val (Y.indexAddrN Try.underlying23 rfl rfl sz0_apiDigest (by omega)) (by decide) ?_   -- t52 := indexAddr 23 t50 t51
        refine WL.val (Y.load Try.underlying45 rfl ((hmd.ext hx4).ext hx7) (sz_apiDigest _) rfl) (by decide) ?_   -- t53 := load 45 t52
        refine WL.st (St.buildSlice rfl (bs1_dig _)) (by decide) fun v54 w8 hR8 => ?_   -- t54 := buildSlice 23 1 [(0,t53)]
        obtain ⟨gg, rfl, hgg, hBg, hx8⟩ := hR8
        have hz8 := hx8.size
        have hE := hE.thenExt hx8
        refine WL.st (St.append Try.underlying23 Try.underlying23 ai_dig rfl rfl (((hO.ext hx4).ext hx7).ext hx8) (Src.one hBg (digC_length _)) one_digC (by rw [flat_length digC_length]; omega)) (by decide) fun v55 w9 hR9 => ?_   -- t55 := call append(t49, t54) : 23,23
        obtain ⟨hO9, hc9, hf9⟩ := hR9
        have hz9 := hc9.size
        have hE := hE.step hc9 (fun k h => by have := hfu k h; omega)
        have hf9 : ∀ k, v55.ownBlock = some k → w1.heap.size ≤ k := by
          rcases hf9 with h | h
          · intro k hk; rw [h] at hk; exact hfu k hk
          · intro k hk; have := h k hk; omega
        refine WL.val (Y.assign rfl) (by decide) ?_   -- t6 := assign t55
        refine WL.nil ?_
        refine hK15 _ _ ?_; try clear hK15 K15
        refine CW.exit ?_   -- exit 2
        have hnx : nextQ (ndsL l) all out = some d := find_at hdx (hmq.2 ht14) hno
        have hml := (hcame.more hnx).le
        rw [List.length_append, List.length_singleton] at hml
        obtain ⟨k, rfl⟩ : ∃ k, fu = k + 1 := ⟨fu - 1, by omega⟩
        exact ⟨(k, v55, out ++ [d]), by show k < k + 1; omega, (by repeat (first | exact Fr.le.nil | refine Fr.le.cons rfl ?_)), hcame.more hnx, by rw [hord, orderQ_some hnx], by show (out ++ [d]).length + k = _; rw [List.length_append, List.length_singleton]; omega, by simpa [flatD] using hO9, hf9, (((hS.ext hx4).ext hx7).ext hx8).chg hc9 (fun q hk h => by have := hfu q h; have := hlt1 q hk; omega), hE, by omega⟩
      -- else
      refine CW.skip ?_
      refine hK12 _ _ ?_; try clear hK12 K12
      refine CW.region ?_   -- region 6
      refine WL.val (Y.move rfl) (by decide) ?_   -- t21 := move t7
      refine WL.val (Y.add rfl rfl ⟨by omega, by omega⟩) (by decide) ?_   -- t22 := binOp add 3 t21 c(1:i64) 3
      refine WL.val (Y.assign rfl) (by decide) ?_   -- t7 := assign t22
      refine WL.nil ?_
      refine ⟨x + 1, by show all.length - (x + 1) < all.length - x; omega, (by repeat (first | exact Fr.le.nil | refine Fr.le.cons rfl ?_)), by show x + 1 ≤ all.length; omega, ?_, (hx3.thenExt hx4).thenExt hx7⟩
      intro z hz
      rw [take_succ hdx] at hz
      rcases List.mem_append.1 hz with hz | hz
      · exact hno z hz
      · simp at hz; subst hz
        exact Bool.eq_false_iff.2 fun h => (by assumption : ¬ (¬ z ∈ out ∧ (bothD ps out).length = ps.length)) (hmq.1 h)
    -- else
    refine CW.exit ?_   -- exit 2
    exfalso
    obtain ⟨d, hd⟩ := Came.next (out := out) hok hai hcl hup (by omega)
    have h1 := nextQ_some hd
    have h2 := List.find?_some hd
    have h3 := hno d (by rw [List.take_of_length_le (by omega)]; exact h1.1)
    rw [h3] at h2; cases h2
  -- else
  refine CW.exit ?_   -- exit 0
  refine hK4 _ _ ?_; try clear hK4 K4
  refine CW.seq fun K16 hK16 => ?_
  refine CW.region ?_   -- region 10
  refine WL.val (Y.move rfl) (by decide) ?_   -- t56 := move t6
  refine WL.val (Y.assign rfl) (by decide) ?_   -- t4 := assign t56
  refine WL.nil ?_
  refine hK16 _ _ ?_; try clear hK16 K16
  refine CW.ret ⟨_, rfl, ?_⟩
  have hfl := hcame.full (by omega)
  exact ⟨by rw [hord, orderQ_none hfl]; exact hO, fun k hk => by have := hfu k hk; omega, hE⟩
theorem rLacks_any (u va vb : Value) (l : List NdV) (a b : List Dig) (w : World) (hl : Nds w u l) (hok : (readE (ndsL l)).2 = 0) (ha : Sl w digC 32 va a) (hb : Sl w digC 32 vb b) (hina : ∀ d ∈ a, d ∈ idsL (ndsL l)) (hinb : ∀ d ∈ b, d ∈ idsL (ndsL l)) : Calls Try.prog 25 #[u, va, vb] w (Ret fun v w' => Own w' TDg 32 v (flatD ((ordL (ndsL l) a).filter fun d => !decide (d ∈ aboveL (ndsL l) b))) ∧ (∀ k, v.ownBlock = some k → w.heap.size ≤ k) ∧ Ext w w') := by
  have hl0 := hl
  obtain ⟨A, c, rfl, hmc, hcm⟩ := hl.sl.lens
  unfold maxLen at hcm
  have ha0 := ha
  obtain ⟨A1, c1, rfl, hac, hax⟩ := ha.lens
  unfold maxLen at hax
  have hb0 := hb
  obtain ⟨A2, c2, rfl, hbc, hbx⟩ := hb.lens
  unfold maxLen at hbx
  have hnl : (ndsL l).length = l.length := by simp
  have hln := ok_len hok
  refine calls_of_CW 38 [6] [(0, .slice A l.length c), (1, .slice A1 a.length c1), (2, .slice A2 b.length c2)] Try.func25 rfl rfl rfl (by simp) args3 ?_
  have hE : Ext w w := Chg.refl
  refine CW.seq fun K1 hK1 => ?_
  refine CW.region ?_   -- region 0
  refine WL.val (Y.assign rfl) (by decide) ?_   -- t6 := assign c(nilslice)
  refine WL.nil ?_
  refine hK1 _ _ ?_; try clear hK1 K1
  refine CW.seq fun K2 hK2 => ?_
  refine CW.region ?_   -- region 1
  refine WL.val (Y.move rfl) (by decide) ?_   -- t11 := move t0
  refine WL.val (Y.move rfl) (by decide) ?_   -- t12 := move t1
  refine WL.call Try.func24 rfl rfl rfl (rOrder_any _ _ l a _ hl0 hok ha0 hina) (by simp) ?_; rintro v13 w1 hR1   -- t13 := call F24(t11, t12) : 22,23
  obtain ⟨hO1, hf1, hx1⟩ := hR1
  have hz1 := hx1.size
  have hE := hE.thenExt hx1
  have hal : (ordL (ndsL l) a).length ≤ (ndsL l).length := Nat.le_trans (ordL_came hok hina).1.le above_length
  obtain ⟨all, hall⟩ : ∃ x, x = ordL (ndsL l) a := ⟨_, rfl⟩
  rw [← hall] at hO1 hal
  obtain ⟨B, mb, cb, rfl⟩ := hO1.lens
  obtain ⟨hlb, hmb, hcb⟩ := hO1.len digC_length (by decide)
  unfold maxLen at hcb
  have hS := hO1.sl digC_length (by decide)
  have hlt1 := hO1.lt
  subst hlb
  refine WL.val (Y.assign rfl) (by decide) ?_   -- t7 := assign t13
  refine WL.nil ?_
  refine hK2 _ _ ?_; try clear hK2 K2
  refine CW.seq fun K3 hK3 => ?_
  refine CW.region ?_   -- region 2
  refine WL.val (Y.move rfl) (by decide) ?_   -- t14 := move t0
  refine WL.val (Y.move rfl) (by decide) ?_   -- t15 := move t2
  refine WL.call Try.func34 rfl rfl rfl (rAbove_any _ _ l b _ (hl0.ext hE) hok (hb0.ext hE) hinb) (by simp) ?_; rintro v16 w2 hR2   -- t16 := call F34(t14, t15) : 22,23
  obtain ⟨hO2, hf2, hx2⟩ := hR2
  have hz2 := hx2.size
  have hE := hE.thenExt hx2
  have hS := hS.ext hx2
  obtain ⟨hs, hhs⟩ : ∃ x, x = aboveL (ndsL l) b := ⟨_, rfl⟩
  rw [← hhs] at hO2
  obtain ⟨B8, m8, c8, rfl⟩ := hO2.lens
  have hl8 := (hO2.len digC_length (by decide)).1
  have hS2 := hO2.sl digC_length (by decide)
  have hlt2 := hO2.lt
  subst hl8
  refine WL.val (Y.assign rfl) (by decide) ?_   -- t8 := assign t16
  refine WL.nil ?_
  refine hK3 _ _ ?_; try clear hK3 K3
  refine CW.seq fun K4 hK4 => ?_
  refine CW.region ?_   -- region 3
  refine WL.val (Y.assign rfl) (by decide) ?_   -- t9 := assign c(nilslice)
  refine WL.nil ?_
  refine hK4 _ _ ?_; try clear hK4 K4
  refine CW.seq fun K5 hK5 => ?_
  refine CW.seq fun K6 hK6 => ?_
  refine CW.region ?_   -- region 4
  refine WL.val (Y.assign rfl) (by decide) ?_   -- t10 := assign c(0:i64)
  refine WL.nil ?_
  refine hK6 _ _ ?_; try clear hK6 K6
  refine CW.block ?_   -- block 0
  refine CW.loop (X := Nat × Value) (fun x => [(7, .slice B all.length cb), (8, .slice B8 hs.length c8), (9, x.2), (10, .int .i64 (x.1 : Int))]) (fun x w0 => x.1 ≤ all.length ∧ Own w0 TDg 32 x.2 (flatD ((all.take x.1).filter fun d => !decide (d ∈ hs))) ∧ (∀ k, x.2.ownBlock = some k → w2.heap.size ≤ k) ∧ Sl w0 digC 32 (.slice B all.length cb) all ∧ Sl w0 digC 32 (.slice B8 hs.length c8) hs ∧ Ext w w0 ∧ w2.heap.size ≤ w0.heap.size) (fun x => all.length - x.1) (0, .slice none 0 0) (by repeat (first | exact Fr.le.nil | refine Fr.le.cons rfl ?_)) ⟨Nat.zero_le _, by simpa [flatD] using Own.nil, (fun k h => by simp [Value.ownBlock] at h), hS, hS2, hE, Nat.le_refl _⟩ ?_
  intro x w3 hl3
  clear hE hS hS2
  obtain ⟨i, v⟩ := x
  dsimp only at hl3 ⊢
  obtain ⟨hil, hO, hfu, hS, hS2, hE, hz3⟩ := hl3
  have hol : ((all.take i).filter fun d => !decide (d ∈ hs)).length ≤ i := Nat.le_trans (List.length_filter_le _ _) (by rw [List.length_take]; omega)
  obtain ⟨B3, mb3, cb3, rfl⟩ := hO.lens
  have hlo := hO.lt
  have hzE := hE.size
  refine CW.seq fun K7 hK7 => ?_
  refine CW.seq fun K8 hK8 => ?_
  refine CW.region ?_   -- region 5
  refine WL.val (Y.move rfl) (by decide) ?_   -- t17 := move t10
  refine WL.val (Y.move rfl) (by decide) ?_   -- t18 := move t7
  refine WL.val (Y.len_slice Try.underlying23 rfl) (by decide) ?_   -- t19 := call len(t18) : 23
  refine WL.val (Y.lss rfl rfl) (by decide) ?_   -- t20 := binOp lss 3 t17 t19 3
  refine WL.nil ?_
  refine hK8 _ _ ?_; try clear hK8 K8
  first | refine CW.condD rfl (fun ht9 => ?_) (fun ht9 => ?_) | refine CW.condND rfl (fun ht9 => ?_) (fun ht9 => ?_) | refine CW.condN rfl (fun ht9 => ?_) (fun ht9 => ?_) | refine CW.cond rfl (fun ht9 => ?_) (fun ht9 => ?_)
  · -- then
    refine CW.skip ?_
    refine hK7 _ _ ?_; try clear hK7 K7
    obtain ⟨d, hdi⟩ : ∃ d, all[i]? = some d := ⟨_, List.getElem?_eq_getElem (by omega)⟩
    obtain ⟨aB, rfl, hma⟩ := hS.at hdi
    have hsel : ((all.take (i + 1)).filter fun d => !decide (d ∈ hs)) = if d ∈ hs then (all.take i).filter fun d => !decide (d ∈ hs) else ((all.take i).filter fun d => !decide (d ∈ hs)) ++ [d] := by
      rw [take_succ hdi, List.filter_append]
      by_cases h : d ∈ hs <;> simp [h]
    refine CW.seq_to (X := Value) (fun u => [(7, .slice (some aB) all.length cb), (8, .slice B8 hs.length c8), (9, u), (10, .int .i64 (i : Int))]) (fun u w0 => Own w0 TDg 32 u (flatD ((all.take (i + 1)).filter fun d => !decide (d ∈ hs))) ∧ (∀ k, u.ownBlock = some k → w2.heap.size ≤ k) ∧ Sl w0 digC 32 (.slice (some aB) all.length cb) all ∧ Sl w0 digC 32 (.slice B8 hs.length c8) hs ∧ Ext w w0 ∧ w2.heap.size ≤ w0.heap.size) ?_ ?_
    · skip
      refine CW.block ?_   -- block 1
      refine CW.seq fun K11 hK11 => ?_
      refine CW.region ?_   -- region 7
      refine WL.val (Y.move rfl) (by decide) ?_   -- t23 := move t8
      refine WL.val (Y.move rfl) (by decide) ?_   -- t24 := move t7
      refine WL.val (Y.move rfl) (by decide) ?_   -- t25 := move t10
      refine WL.val (Y.indexAddrN Try.underlying23 rfl rfl sz0_apiDigest (by omega)) (by decide) ?_   -- t26 := indexAddr 23 t24 t25
      refine WL.val (Y.load Try.underlying45 rfl hma (sz_apiDigest _) rfl) (by decide) ?_   -- t27 := load 45 t26
      refine WL.call Try.func27 rfl rfl rfl (rIn_any _ hs d _ hS2) (by simp) ?_; rintro v w4 ⟨rfl, hx4⟩; have hz4 := hx4.size; have hE := hE.thenExt hx4   -- t28 := call F27(t23, t27) : 23,45
      refine WL.val (Y.not rfl) (by decide) ?_   -- t29 := unOp not 4 t28
      refine WL.nil ?_
      refine hK11 _ _ ?_; try clear hK11 K11
      first | refine CW.condD rfl (fun ht12 => ?_) (fun ht12 => ?_) | refine CW.condND rfl (fun ht12 => ?_) (fun ht12 => ?_) | refine CW.condN rfl (fun ht12 => ?_) (fun ht12 => ?_) | refine CW.cond rfl (fun ht12 => ?_) (fun ht12 => ?_)
      · -- then
        refine CW.region ?_   -- region 8
        refine WL.val (Y.move rfl) (by decide) ?_   -- t30 := move t9
        refine WL.val (Y.move rfl) (by decide) ?_   -- t31 := move t7
        refine WL.val (Y.move rfl) (by decide) ?_   -- t32 := move t10
        refine WL.val (Y.indexAddrN Try.underlying23 rfl rfl sz0_apiDigest (by omega)) (by decide) ?_   -- t33 := indexAddr 23 t31 t32
        refine WL.val (Y.load Try.underlying45 rfl (hma.ext hx4) (sz_apiDigest _) rfl) (by decide) ?_   -- t34 := load 45 t33
        refine WL.st (St.buildSlice rfl (bs1_dig _)) (by decide) fun v35 w5 hR5 => ?_   -- t35 := buildSlice 23 1 [(0,t34)]
        obtain ⟨gg, rfl, hgg, hBg, hx5⟩ := hR5
        have hz5 := hx5.size
        have hE := hE.thenExt hx5
        have hS := (hS.ext hx4).ext hx5
        have hS2 := (hS2.ext hx4).ext hx5
        refine WL.st (St.append Try.underlying23 Try.underlying23 ai_dig rfl rfl ((hO.ext hx4).ext hx5) (Src.one hBg (digC_length _)) one_digC (by rw [flat_length digC_length]; omega)) (by decide) fun v36 w6 hR6 => ?_   -- t36 := call append(t30, t35) : 23,23
        obtain ⟨hO6, hc6, hf6⟩ := hR6
        have hz6 := hc6.size
        have hE := hE.step hc6 (fun k h => by have := hfu k h; omega)
        have hf6 : ∀ k, v36.ownBlock = some k → w2.heap.size ≤ k := by
          rcases hf6 with h | h
          · intro k hk; rw [h] at hk; exact hfu k hk
          · intro k hk; have := h k hk; omega
        have hS := hS.chg hc6 (fun k hk h => by have := hfu k h; have := hlt1 k hk; omega)
        have hS2 := hS2.chg hc6 (fun k hk h => by have := hfu k h; have := hlt2 k hk; omega)
        refine WL.val (Y.assign rfl) (by decide) ?_   -- t9 := assign t36
        refine WL.nil ?_
        exact ⟨v36, (by repeat (first | exact Fr.le.nil | refine Fr.le.cons rfl ?_)), by rw [hsel, if_neg (by simp_all)]; simpa [flatD] using hO6, hf6, hS, hS2, hE, by omega⟩
      -- else
      refine CW.skip ?_
      exact ⟨.slice B3 mb3 cb3, (by repeat (first | exact Fr.le.nil | refine Fr.le.cons rfl ?_)), by rw [hsel, if_pos (by simp_all)]; exact hO.ext hx4, hfu, hS.ext hx4, hS2.ext hx4, hE, by omega⟩
    rintro u w7 hj7
    clear hE hO hfu hS hS2
    obtain ⟨hO, hfu, hS, hS2, hE, hz7⟩ := hj7
    refine CW.region ?_   -- region 6
    refine WL.val (Y.move rfl) (by decide) ?_   -- t21 := move t10
    refine WL.val (Y.add rfl rfl ⟨by omega, by omega⟩) (by decide) ?_   -- t22 := binOp add 3 t21 c(1:i64) 3
    refine WL.val (Y.assign rfl) (by decide) ?_   -- t10 := assign t22
    refine WL.nil ?_
    exact ⟨(i + 1, u), by show all.length - (i + 1) < all.length - i; omega, (by repeat (first | exact Fr.le.nil | refine Fr.le.cons rfl ?_)), by show i + 1 ≤ all.length; omega, hO, hfu, hS, hS2, hE, by omega⟩
  -- else
  refine CW.exit ?_   -- exit 0
  refine hK5 _ _ ?_; try clear hK5 K5
  refine CW.seq fun K13 hK13 => ?_
  refine CW.region ?_   -- region 9
  refine WL.val (Y.move rfl) (by decide) ?_   -- t37 := move t9
  refine WL.val (Y.assign rfl) (by decide) ?_   -- t6 := assign t37
  refine WL.nil ?_
  refine hK13 _ _ ?_; try clear hK13 K13
  refine CW.ret ⟨_, rfl, ?_⟩
  have hi2 : i = all.length := by omega
  subst hi2
  rw [List.take_length] at hO
  exact ⟨by rw [← hall, ← hhs]; exact hO, fun k hk => by have := hfu k hk; omega, hE⟩
theorem two_any (u v0 : Value) (a b : List Dig) (w : World) (hl : Sl w digC 32 u a) (hd : Sl w digC 32 v0 b) (hp : (a.length + b.length) * 32 ≤ 140737488355328) : Calls Try.prog 19 #[u, v0] w (Ret fun v w' => Own w' TDg 32 v (flatD (a ++ b)) ∧ (∀ k, v.ownBlock = some k → w.heap.size ≤ k) ∧ Ext w w') := by
  have hl0 := hl
  obtain ⟨A, c, rfl, hmc, hcm⟩ := hl.lens
  unfold maxLen at hcm
  have hd0 := hd
  obtain ⟨A1, c1, rfl, hdc, hdx⟩ := hd.lens
  unfold maxLen at hdx
  
  refine calls_of_CW 10 [4] [(0, .slice A a.length c), (1, .slice A1 b.length c1)] Try.func19 rfl rfl rfl (by simp) args2 ?_
  have hE : Ext w w := Chg.refl
  refine CW.seq fun K1 hK1 => ?_
  refine CW.region ?_   -- region 0
  refine WL.val (Y.assign rfl) (by decide) ?_   -- t4 := assign c(nilslice)
  refine WL.nil ?_
  refine hK1 _ _ ?_; try clear hK1 K1
  refine CW.seq fun K2 hK2 => ?_
  refine CW.region ?_   -- region 1
  refine WL.st (St.buildSlice0 Try.underlying23 sz0_apiDigest) (by decide) fun v5 w1 hR1 => ?_   -- t5 := buildSlice 23 0 []
  obtain ⟨g5, rfl, hg5, hO1, hx1⟩ := hR1
  have hz1 := hx1.size
  have hE := hE.thenExt hx1
  have hf1 : ∀ k, (Value.slice (some ⟨g5, 0, none⟩) 0 0).ownBlock = some k → w.heap.size ≤ k := fun k h => by simp [Value.ownBlock] at h; omega
  refine WL.val (Y.move rfl) (by decide) ?_   -- t6 := move t0
  refine WL.st (St.append Try.underlying23 Try.underlying23 ai_dig rfl rfl hO1 ((hl0.ext hE).src digC_length) (one_flatD a) (by simp only [List.length_nil]; omega)) (by decide) fun v7 w2 hR2 => ?_   -- t7 := call append(t5, t6) : 23,23
  obtain ⟨hO2, hc2, hf2⟩ := hR2
  have hz2 := hc2.size
  have hE := hE.step hc2 (fun k h => by have := hf1 k h; omega)
  rw [List.nil_append] at hO2
  have hf2 : ∀ k, v7.ownBlock = some k → w.heap.size ≤ k := by
    rcases hf2 with h | h
    · intro k hk; rw [h] at hk; have := hf1 k hk; omega
    · intro k hk; have := h k hk; omega
  refine WL.val (Y.move rfl) (by decide) ?_   -- t8 := move t1
  refine WL.st (St.append Try.underlying23 Try.underlying23 ai_dig rfl rfl hO2 ((hd0.ext hE).src digC_length) (one_flatD b) (by rw [show (List.map digC a).flatten = flatD a from rfl, flat_length digC_length]; omega)) (by decide) fun v9 w3 hR3 => ?_   -- t9 := call append(t7, t8) : 23,23
  obtain ⟨hO3, hc3, hf3⟩ := hR3
  have hz3 := hc3.size
  have hE := hE.step hc3 (fun k h => by have := hf2 k h; omega)
  refine WL.val (Y.assign rfl) (by decide) ?_   -- t4 := assign t9
  refine WL.nil ?_
  refine hK2 _ _ ?_; try clear hK2 K2
  refine CW.ret ⟨_, rfl, ?_⟩
  exact ⟨by rw [flatD_app]; exact hO3, (by
    rcases hf3 with h | h
    · intro k hk; rw [h] at hk; exact hf2 k hk
    · intro k hk; have := h k hk; omega), hE⟩
end Go.Proofs.Ytecolkngbcgmcaa
