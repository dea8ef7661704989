/- The document's trees: Wrong, Add, walked. No condition. -/
import Derived.Test.YtmndofgagngcgaaFa
import Derived.Test.YtmndofgagngcgaaRt
import Derived.Test.YtmndofgagngcgaaG4
set_option linter.unusedSimpArgs false
set_option linter.unusedVariables false
namespace Go.Proofs.Ytmndofgagngcgaa
open Go.RowKit Go.Fw Go.Fu Go.Pl
theorem findV_neg (e : List El) (r : RefD) : findV e r < 0 ↔ atE e r = none := by
  unfold findV
  cases atE e r <;> simp <;> omega

theorem tIn_any (u : Value) (l : List Dig) (k : Dig) (w : World) (hl : Sl w digC 32 u l) : Calls Try.prog 61 #[u, digV k] w (Ret fun r w' => r = .bool (decide (k ∈ l)) ∧ Ext w w') := by
  obtain ⟨A, m, c, rfl, hm, hmc, hcm, hux⟩ := id hl
  unfold maxLen at hcm
  refine calls_of_CW 18 [4] [(0, .slice A m c), (1, digV k)] Try.func61 rfl rfl rfl (by simp) args2 ?_
  have hE : Ext w w := Chg.refl
  refine CW.seq fun K1 hK1 => ?_
  refine CW.region ?_
  refine WL.box rfl rfl (by decide) fun g3 w1 hx1 hg3 hB3 => ?_
  have hlt3 := hB3.lt; have hz1 := hx1.size
  have hM3 := hB3.mem; have hz1 := hx1.size; have hE := hE.thenExt hx1
  refine WL.val (Y.assign rfl) (by decide) ?_
  refine WL.nil ?_
  refine hK1 _ _ ?_; try clear hK1 K1
  refine CW.seq fun K2 hK2 => ?_
  refine CW.seq fun K3 hK3 => ?_
  refine CW.region ?_
  refine WL.val (Y.assign rfl) (by decide) ?_
  refine WL.nil ?_
  refine hK3 _ _ ?_; try clear hK3 K3
  refine CW.block ?_
  refine CW.loop (X := Nat) (fun x => [(0, .slice A m c), (3, .pointer (some ⟨g3, 0, none⟩)), (5, .int .i64 (x : Int))]) (fun x w0 => x ≤ l.length ∧ k ∉ l.take x ∧ Ext w w0 ∧ Blk w0 g3 50 (digC k)) (fun x => l.length - x) 0 (by repeat (first | exact Fr.le.nil | refine Fr.le.cons rfl ?_)) ⟨Nat.zero_le _, by simp, hE, hB3⟩ ?_
  intro x w2 hl2
  obtain ⟨hx, hno, hE, hB3⟩ := hl2
  refine CW.seq fun K4 hK4 => ?_
  refine CW.seq fun K5 hK5 => ?_
  refine CW.region ?_
  refine WL.val (Y.move rfl) (by decide) ?_
  refine WL.val (Y.move rfl) (by decide) ?_
  refine WL.val (Y.len_slice Try.underlying88 rfl) (by decide) ?_
  refine WL.val (Y.lss rfl rfl) (by decide) ?_
  refine WL.nil ?_
  refine hK5 _ _ ?_; try clear hK5 K5
  first | refine CW.condD rfl (fun ht6 => ?_) (fun ht6 => ?_) | refine CW.condND rfl (fun ht6 => ?_) (fun ht6 => ?_) | refine CW.condN rfl (fun ht6 => ?_) (fun ht6 => ?_) | refine CW.cond rfl (fun ht6 => ?_) (fun ht6 => ?_)
  · -- then
    refine CW.skip ?_
    refine hK4 _ _ ?_; try clear hK4 K4
    refine CW.seq fun K7 hK7 => ?_
    refine CW.block ?_
    refine CW.seq fun K8 hK8 => ?_
    obtain ⟨d, hd⟩ : ∃ d, l[x]? = some d := ⟨_, List.getElem?_eq_getElem (by omega)⟩
    obtain ⟨a, rfl, hmd⟩ := (hl.ext hE).get hd
    refine CW.quiet (fun wq => Ext w2 wq) (by kernel_rfl) (by kernel_rfl) Chg.drew ?_
    refine QL.val (fun wq hq => Y.move rfl) (by decide) ?_
    refine QL.val (fun wq hq => Y.move rfl) (by decide) ?_
    refine QL.val (fun wq hq => Y.indexAddrN Try.underlying88 rfl rfl sz0_apiDigest (by omega)) (by decide) ?_
    refine QL.val (fun wq hq => Y.load Try.underlying50 rfl (hmd.ext hq) (sz_apiDigest _) rfl) (by decide) ?_
    refine QL.val (fun wq hq => Y.load Try.underlying50 rfl (hB3.ext hq).mem (sz_apiDigest _) rfl) (by decide) ?_
    refine QL.val (fun wq hq => Y.eql_apiDigest rfl rfl) (by decide) ?_
    refine QL.nil fun w3 hx3 => ?_
    have hz3 := hx3.size
    have hE := hE.thenExt hx3
    have hB3 := hB3.ext hx3
    refine hK8 _ _ ?_; try clear hK8 K8
    first | refine CW.condD rfl (fun ht9 => ?_) (fun ht9 => ?_) | refine CW.condND rfl (fun ht9 => ?_) (fun ht9 => ?_) | refine CW.condN rfl (fun ht9 => ?_) (fun ht9 => ?_) | refine CW.cond rfl (fun ht9 => ?_) (fun ht9 => ?_)
    · -- then
      refine CW.seq fun K10 hK10 => ?_
      refine CW.region ?_
      refine WL.val (Y.assign rfl) (by decide) ?_
      refine WL.nil ?_
      refine hK10 _ _ ?_; try clear hK10 K10
      refine CW.ret ⟨_, rfl, ?_⟩
      have hkl : k ∈ l := by
        have h : d = k := by assumption
        rw [← h]
        exact List.mem_of_getElem? hd
      exact ⟨by rw [decide_eq_true hkl], hE⟩
 
    refine CW.skip ?_
    refine hK7 _ _ ?_; try clear hK7 K7
    refine CW.region ?_
    refine WL.val (Y.move rfl) (by decide) ?_
    refine WL.val (Y.add rfl rfl ⟨by omega, by omega⟩) (by decide) ?_
    refine WL.val (Y.assign rfl) (by decide) ?_
    refine WL.nil ?_
    refine ⟨x + 1, by show l.length - (x + 1) < l.length - x; omega, (by repeat (first | exact Fr.le.nil | refine Fr.le.cons rfl ?_)), by show x + 1 ≤ l.length; omega, ?_, hE, hB3⟩
    show k ∉ l.take (x + 1)
    rw [take_succ hd, List.mem_append, List.mem_singleton]
    have hne : ¬ d = k := by assumption
    rintro (h | h)
    · exact hno h
    · exact hne h.symm
  refine CW.exit ?_
  refine hK2 _ _ ?_; try clear hK2 K2
  refine CW.seq fun K11 hK11 => ?_
  refine CW.region ?_
  refine WL.val (Y.assign rfl) (by decide) ?_
  refine WL.nil ?_
  refine hK11 _ _ ?_; try clear hK11 K11
  refine CW.ret ⟨_, rfl, ?_⟩
  exact ⟨by rw [decide_eq_false (by have h1 : l.take x = l := List.take_of_length_le (by omega); rw [← h1]; exact hno)], hE⟩
theorem rwrong_any (g : Nat) (ad : List Dig) (rs : List Rn) (av ev_ : Value) (id : Dig) (u : Value) (ops : List OpD) (w : World) (hR : RtAt w g ad rs av ev_) (hn : rs.length ≤ 400001) (hl : Sl w opC 37 u ops) : Calls Try.prog 47 #[.pointer (some ⟨g, 0, none⟩), digV id, u] w (Ret fun v w' => v = .int .i64 (wrongC ⟨ad, rels rs⟩ id ops) ∧ Ext w w') := by
  obtain ⟨A, m, c, rfl, hm, hmc, hcm, _⟩ := _root_.id hl
  unfold maxLen at hcm
  have hlo2 := hl
  have hRo := hR
  have hel : (rels rs).length = rs.length := List.length_map _
  obtain ⟨EA, em, ec, rfl⟩ := hR.es.lens
  have hem : rs.length = em := by
    obtain ⟨A', m', c', e, h1, _⟩ := hR.sl
    injection e with e1 e2 e3
    omega
  have hik : ∀ k, insN (ops.take k) ≤ k := fun k => by
    have h1 := List.countP_le_length (p := fun x : OpD => decide (x.kind = 1)) (l := ops.take k)
    rw [List.length_take] at h1
    unfold insN; omega
  have hfn := findV_neg (rels rs)
  refine calls_of_CW 75 [6] [(0, .pointer (some ⟨g, 0, none⟩)), (1, digV id), (2, .slice A m c)] Try.func47 rfl rfl rfl (by simp) args3 ?_
  have hE : Ext w w := Chg.refl
  refine CW.seq fun K1 hK1 => ?_
  refine CW.region ?_
  refine WL.box rfl rfl (by decide) fun g4 w1 hx1 hg4 hB4 => ?_
  have hlt4 := hB4.lt; have hz1 := hx1.size
  have hM4 := hB4.mem; have hz1 := hx1.size; have hE := hE.thenExt hx1
  refine WL.val (Y.assign rfl) (by decide) ?_
  refine WL.nil ?_
  refine hK1 _ _ ?_; try clear hK1 K1
  refine CW.seq fun K2 hK2 => ?_
  refine CW.seq fun K3 hK3 => ?_
  refine CW.quiet (fun wq => Ext w1 wq) (by kernel_rfl) (by kernel_rfl) Chg.drew ?_
  refine QL.val (fun wq hq => Y.move rfl) (by decide) ?_
  refine QL.val (fun wq hq => Y.nilCheck rfl) (by decide) ?_
  refine QL.val (fun wq hq => Y.fieldAddr fo_recensionref08Tree0 rfl) (by decide) ?_
  refine QL.val (fun wq hq => Y.load1 Try.underlying88 rfl (((hR.ext hE).ext hq).blk.mem.recensionref08Tree0) rfl) (by decide) ?_
  refine QL.val (fun wq hq => Y.load Try.underlying50 rfl (hB4.ext hq).mem (sz_apiDigest _) rfl) (by decide) ?_
  refine QL.call Try.func61 rfl rfl rfl (fun wq hq => ret_ext (tIn_any _ _ id _ (((hR.ext hE).ads.ext hq).sl digC_length (by decide))) hq) (by simp) ?_
  refine QL.nil fun w2 hx2 => ?_
  have hz2 := hx2.size
  have hE := hE.thenExt hx2
  have hB4 := hB4.ext hx2
  refine hK3 _ _ ?_; try clear hK3 K3
  first | refine CW.condD rfl (fun ht4 => ?_) (fun ht4 => ?_) | refine CW.condND rfl (fun ht4 => ?_) (fun ht4 => ?_) | refine CW.condN rfl (fun ht4 => ?_) (fun ht4 => ?_) | refine CW.cond rfl (fun ht4 => ?_) (fun ht4 => ?_)
  · -- then
    refine CW.seq fun K5 hK5 => ?_
    refine CW.region ?_
    refine WL.val (Y.assign rfl) (by decide) ?_
    refine WL.nil ?_
    refine hK5 _ _ ?_; try clear hK5 K5
    refine CW.ret ⟨_, rfl, ?_⟩
    exact ⟨by rw [wrongC, if_pos (by simp_all)], hE⟩
  refine CW.skip ?_
  refine hK2 _ _ ?_; try clear hK2 K2
  refine CW.seq fun K6 hK6 => ?_
  refine CW.region ?_
  refine WL.val (Y.assign rfl) (by decide) ?_
  refine WL.nil ?_
  refine hK6 _ _ ?_; try clear hK6 K6
  refine CW.seq fun K7 hK7 => ?_
  refine CW.seq fun K8 hK8 => ?_
  refine CW.region ?_
  refine WL.val (Y.assign rfl) (by decide) ?_
  refine WL.nil ?_
  refine hK8 _ _ ?_; try clear hK8 K8
  refine CW.block ?_
  refine CW.loop (X := Nat) (fun x => [(0, .pointer (some ⟨g, 0, none⟩)), (2, .slice A m c), (4, .pointer (some ⟨g4, 0, none⟩)), (7, .int .i64 (insN (ops.take x) : Int)), (8, .int .i64 (x : Int))]) (fun x w0 => x ≤ m ∧ Ext w w0 ∧ Blk w0 g4 50 (digC id)) (fun x => m - x) 0 (by repeat (first | exact Fr.le.nil | refine Fr.le.cons rfl ?_)) ⟨Nat.zero_le _, hE, hB4⟩ ?_
  intro x w3 hl3
  obtain ⟨hxm, hE, hB4⟩ := hl3
  have hR := hRo.ext hE
  have hl := hlo2.ext hE
  have hzl := hE.size
  refine CW.seq fun K9 hK9 => ?_
  refine CW.seq fun K10 hK10 => ?_
  refine CW.region ?_
  refine WL.val (Y.move rfl) (by decide) ?_
  refine WL.val (Y.move rfl) (by decide) ?_
  refine WL.val (Y.len_slice Try.underlying27 rfl) (by decide) ?_
  refine WL.val (Y.lss rfl rfl) (by decide) ?_
  refine WL.nil ?_
  refine hK10 _ _ ?_; try clear hK10 K10
  first | refine CW.condD rfl (fun ht11 => ?_) (fun ht11 => ?_) | refine CW.condND rfl (fun ht11 => ?_) (fun ht11 => ?_) | refine CW.condN rfl (fun ht11 => ?_) (fun ht11 => ?_) | refine CW.cond rfl (fun ht11 => ?_) (fun ht11 => ?_)
  · -- then
    refine CW.skip ?_
    refine hK9 _ _ ?_; try clear hK9 K9
    obtain ⟨o, ho⟩ : ∃ o, ops[x]? = some o := ⟨_, List.getElem?_eq_getElem (by omega)⟩
    obtain ⟨aa, rfl, hma⟩ := hlo2.get ho
    have hstep := insN_step (ops := ops) ho
    have hix := hik x
    refine CW.seq_to (X := Unit) (fun _ => [(0, .pointer (some ⟨g, 0, none⟩)), (2, .slice (some aa) m c), (4, .pointer (some ⟨g4, 0, none⟩)), (7, .int .i64 (insN (ops.take (x + 1)) : Int)), (8, .int .i64 (x : Int))]) (fun _ w0 => Ext w w0 ∧ Blk w0 g4 50 (digC id)) ?_ ?_
    · skip
      refine CW.block ?_
      refine CW.seq fun K13 hK13 => ?_
      refine CW.region ?_
      refine WL.val (Y.move rfl) (by decide) ?_
      refine WL.val (Y.move rfl) (by decide) ?_
      refine WL.val (Y.indexAddrN Try.underlying27 rfl rfl sz0_apiOp (by omega)) (by decide) ?_
      refine WL.val (Y.fieldAddr fo_apiOp0 rfl) (by decide) ?_
      refine WL.val (Y.load1 Try.underlying3 rfl ((hma.ext hE).op0) rfl) (by decide) ?_
      refine WL.val (Y.eql rfl rfl) (by decide) ?_
      refine WL.nil ?_
      refine hK13 _ _ ?_; try clear hK13 K13
      first | refine CW.condD rfl (fun ht14 => ?_) (fun ht14 => ?_) | refine CW.condND rfl (fun ht14 => ?_) (fun ht14 => ?_) | refine CW.condN rfl (fun ht14 => ?_) (fun ht14 => ?_) | refine CW.cond rfl (fun ht14 => ?_) (fun ht14 => ?_)
      · -- then
        refine CW.region ?_
        refine WL.val (Y.move rfl) (by decide) ?_
        refine WL.val (Y.add rfl rfl ⟨by omega, by omega⟩) (by decide) ?_
        refine WL.val (Y.assign rfl) (by decide) ?_
        refine WL.nil ?_
        refine ⟨(), ?_, hE, hB4⟩
        rw [hstep, if_pos (by assumption)]
        exact (by repeat (first | exact Fr.le.nil | refine Fr.le.cons rfl ?_))
   
      refine CW.skip ?_
      refine ⟨(), ?_, hE, hB4⟩
      rw [hstep, if_neg (by assumption)]
      exact (by repeat (first | exact Fr.le.nil | refine Fr.le.cons rfl ?_))
    rintro u w4 hj4
    obtain ⟨hE, hB4⟩ := hj4
    have hR := hRo.ext hE
    have hl := hlo2.ext hE
    refine CW.region ?_
    refine WL.val (Y.move rfl) (by decide) ?_
    refine WL.val (Y.add rfl rfl ⟨by omega, by omega⟩) (by decide) ?_
    refine WL.val (Y.assign rfl) (by decide) ?_
    refine WL.nil ?_
    exact ⟨x + 1, (by show m - (x + 1) < m - x; omega), (by repeat (first | exact Fr.le.nil | refine Fr.le.cons rfl ?_)), (by show x + 1 ≤ m; omega), hE, hB4⟩
  refine CW.exit ?_
  refine hK7 _ _ ?_; try clear hK7 K7
  refine CW.seq fun K15 hK15 => ?_
  have htk : ops.take x = ops := List.take_of_length_le (by omega)
  have hins := hik x
  rw [htk] at hins ⊢
  have hnid : id ∉ ad := by simp_all
  refine CW.seq_test 44 (2000 < m ∨ 400000 < insN ops + (rs.length - 1)) ?_ ?_
  · refine CW.region ?_
    refine WL.val (Y.move rfl) (by decide) ?_
    refine WL.val (Y.len_slice Try.underlying27 rfl) (by decide) ?_
    refine WL.val (Y.gtr rfl rfl) (by decide) ?_
    refine WL.val (Y.move rfl) (by decide) ?_
    first | refine WL.casesD (d := 34) rfl (fun hg34 => ?_) (fun hg34 => ?_) | refine WL.casesND (d := 34) rfl (fun hg34 => ?_) (fun hg34 => ?_) | refine WL.cases (d := 34) rfl (fun hg34 => ?_) (fun hg34 => ?_)
    · -- t34 = T
      refine WL.goff rfl rfl (by decide) ?_
      refine WL.goff rfl rfl (by decide) ?_
      refine WL.goff rfl rfl (by decide) ?_
      refine WL.goff rfl rfl (by decide) ?_
      refine WL.goff rfl rfl (by decide) ?_
      refine WL.goff rfl rfl (by decide) ?_
      refine WL.goff rfl rfl (by decide) ?_
      refine WL.goff rfl rfl (by decide) ?_
      refine WL.goff rfl rfl (by decide) ?_
      refine WL.val (Y.pick rfl rfl) (by decide) ?_
      refine WL.nil ⟨⟨_, rfl, ?_⟩, rfl, (by repeat (first | exact Fr.le.refl | refine Fr.le.push rfl ?_))⟩
      first | (simp only [*, Int.natCast_inj, Bool.not_eq_true', decide_eq_false_iff_not, decide_eq_true_eq, not_true_eq_false, not_false_eq_true, true_and, false_and, and_true, and_false, false_or, or_false, true_or, or_true, iff_true, true_iff, iff_false, false_iff]; done) | (simp_all; done) | (refine congrArg Value.bool (Bool.eq_iff_iff.2 ?_); simp_all; done) | (simp_all; omega)
    · -- t34 = F
      refine WL.gval rfl rfl (Y.move rfl) (by decide) ?_
      refine WL.gval rfl rfl (Y.move rfl) (by decide) ?_
      refine WL.gval rfl rfl (Y.nilCheck rfl) (by decide) ?_
      refine WL.gval rfl rfl (Y.fieldAddr fo_recensionref08Tree1 rfl) (by decide) ?_
      refine WL.gval rfl rfl (Y.load1 Try.underlying89 rfl hR.blk.mem.recensionref08Tree1 rfl) (by decide) ?_
      refine WL.gval rfl rfl (Y.len_slice Try.underlying89 rfl) (by decide) ?_
      refine WL.gval rfl rfl (Y.add rfl rfl ⟨by omega, by omega⟩) (by decide) ?_
      refine WL.gval rfl rfl (Y.sub rfl rfl ⟨by omega, by omega⟩) (by decide) ?_
      refine WL.gval rfl rfl (Y.gtr rfl rfl) (by decide) ?_
      refine WL.val (Y.pick rfl rfl) (by decide) ?_
      refine WL.nil ⟨⟨_, rfl, ?_⟩, rfl, (by repeat (first | exact Fr.le.refl | refine Fr.le.push rfl ?_))⟩
      first | (simp only [*, Int.natCast_inj, Bool.not_eq_true', decide_eq_false_iff_not, decide_eq_true_eq, not_true_eq_false, not_false_eq_true, true_and, false_and, and_true, and_false, false_or, or_false, true_or, or_true, iff_true, true_iff, iff_false, false_iff]; done) | (simp_all; done) | (refine congrArg Value.bool (Bool.eq_iff_iff.2 ?_); simp_all; done) | (simp_all; omega)
  first | refine CW.condD rfl (fun ht16 => ?_) (fun ht16 => ?_) | refine CW.condND rfl (fun ht16 => ?_) (fun ht16 => ?_) | refine CW.condN rfl (fun ht16 => ?_) (fun ht16 => ?_) | refine CW.cond rfl (fun ht16 => ?_) (fun ht16 => ?_)
  · -- then
    refine CW.seq fun K17 hK17 => ?_
    refine CW.region ?_
    refine WL.val (Y.assign rfl) (by decide) ?_
    refine WL.nil ?_
    refine hK17 _ _ ?_; try clear hK17 K17
    refine CW.ret ⟨_, rfl, ?_⟩
    exact ⟨by rw [wrongC, if_neg hnid, if_pos (by rw [hm, hel]; assumption)], hE⟩
  refine CW.skip ?_
  refine hK15 _ _ ?_; try clear hK15 K15
  refine CW.seq fun K18 hK18 => ?_
  refine CW.seq fun K19 hK19 => ?_
  refine CW.region ?_
  refine WL.val (Y.assign rfl) (by decide) ?_
  refine WL.nil ?_
  refine hK19 _ _ ?_; try clear hK19 K19
  refine CW.block ?_
  refine CW.loop (X := Nat) (fun x => [(0, .pointer (some ⟨g, 0, none⟩)), (2, .slice A m c), (4, .pointer (some ⟨g4, 0, none⟩)), (9, .int .i64 (x : Int))]) (fun x w0 => x ≤ m ∧ wrongN (rels rs) ops x = 0 ∧ Ext w w0 ∧ Blk w0 g4 50 (digC id)) (fun x => m - x) 0 (by repeat (first | exact Fr.le.nil | refine Fr.le.cons rfl ?_)) ⟨Nat.zero_le _, rfl, hE, hB4⟩ ?_
  intro x w5 hl5
  obtain ⟨hxm, hwn, hE, hB4⟩ := hl5
  have hR := hRo.ext hE
  have hl := hlo2.ext hE
  have hzl := hE.size
  have hn4 : ¬ (2000 < ops.length ∨ 400000 < insN ops + ((rels rs).length - 1)) := by rw [hm, hel]; assumption
  refine CW.seq fun K20 hK20 => ?_
  refine CW.seq fun K21 hK21 => ?_
  refine CW.region ?_
  refine WL.val (Y.move rfl) (by decide) ?_
  refine WL.val (Y.move rfl) (by decide) ?_
  refine WL.val (Y.len_slice Try.underlying27 rfl) (by decide) ?_
  refine WL.val (Y.lss rfl rfl) (by decide) ?_
  refine WL.nil ?_
  refine hK21 _ _ ?_; try clear hK21 K21
  first | refine CW.condD rfl (fun ht22 => ?_) (fun ht22 => ?_) | refine CW.condND rfl (fun ht22 => ?_) (fun ht22 => ?_) | refine CW.condN rfl (fun ht22 => ?_) (fun ht22 => ?_) | refine CW.cond rfl (fun ht22 => ?_) (fun ht22 => ?_)
  · -- then
    refine CW.skip ?_
    refine hK20 _ _ ?_; try clear hK20 K20
    refine CW.seq fun K23 hK23 => ?_
    refine CW.block ?_
    refine CW.seq fun K24 hK24 => ?_
    obtain ⟨o, ho⟩ : ∃ o, ops[x]? = some o := ⟨_, List.getElem?_eq_getElem (by omega)⟩
    obtain ⟨aa, rfl, hma⟩ := hlo2.get ho
    refine CW.region ?_
    refine WL.val (Y.move rfl) (by decide) ?_
    refine WL.val (Y.move rfl) (by decide) ?_
    refine WL.val (Y.add rfl rfl ⟨by omega, by omega⟩) (by decide) ?_
    refine WL.call Try.func62 rfl rfl rfl (rRight_any _ ops ((x : Int) + 1) _ hl ⟨by omega, by omega⟩) (by simp) ?_; rintro v w6 ⟨rfl, hx6⟩; have hz6 := hx6.size; have hE := hE.thenExt hx6; have hB4 := hB4.ext hx6
    refine WL.val (Y.assign rfl) (by decide) ?_
    refine WL.nil ?_
    refine hK24 _ _ ?_; try clear hK24 K24
    refine CW.seq fun K25 hK25 => ?_
    refine CW.seq fun K26 hK26 => ?_
    refine CW.region ?_
    refine WL.val (Y.move rfl) (by decide) ?_
    refine WL.val (Y.neq rfl rfl) (by decide) ?_
    refine WL.nil ?_
    refine hK26 _ _ ?_; try clear hK26 K26
    first | refine CW.condD rfl (fun ht27 => ?_) (fun ht27 => ?_) | refine CW.condND rfl (fun ht27 => ?_) (fun ht27 => ?_) | refine CW.condN rfl (fun ht27 => ?_) (fun ht27 => ?_) | refine CW.cond rfl (fun ht27 => ?_) (fun ht27 => ?_)
    · -- then
      refine CW.seq fun K28 hK28 => ?_
      refine CW.region ?_
      refine WL.val (Y.move rfl) (by decide) ?_
      refine WL.val (Y.assign rfl) (by decide) ?_
      refine WL.nil ?_
      refine hK28 _ _ ?_; try clear hK28 K28
      refine CW.ret ⟨_, rfl, ?_⟩
      exact ⟨by rw [wrongC, if_neg hnid, if_neg hn4, wrongN_end ho hwn (by rw [wrongAt, if_pos (by assumption)]; assumption), wrongAt, if_pos (by assumption)], hE⟩
 
    refine CW.skip ?_
    refine hK25 _ _ ?_; try clear hK25 K25
    refine CW.seq_testE 74 (refKind o.at_ = 2 ∧ atE (rels rs) o.at_ = none) ?_ ?_
    · refine CW.region ?_
      refine WL.val (Y.move rfl) (by decide) ?_
      refine WL.val (Y.move rfl) (by decide) ?_
      refine WL.val (Y.indexAddrN Try.underlying27 rfl rfl sz0_apiOp (by omega)) (by decide) ?_
      refine WL.val (Y.fieldAddr fo_apiOp2 rfl) (by decide) ?_
      refine WL.val (Y.load Try.underlying61 rfl ((hma.ext hE).op2) (sz_apiRef _) rfl) (by decide) ?_
      refine WL.call Try.func63 rfl rfl rfl (rRef_any _ _) (by simp) ?_; rintro v w7 ⟨rfl, hx7⟩; have hz7 := hx7.size; have hE := hE.thenExt hx7; have hB4 := hB4.ext hx7
      refine WL.val (Y.eql rfl rfl) (by decide) ?_
      refine WL.val (Y.move rfl) (by decide) ?_
      first | refine WL.casesD (d := 65) rfl (fun hg65 => ?_) (fun hg65 => ?_) | refine WL.casesND (d := 65) rfl (fun hg65 => ?_) (fun hg65 => ?_) | refine WL.cases (d := 65) rfl (fun hg65 => ?_) (fun hg65 => ?_)
      · -- t65 = T
        refine WL.gval rfl rfl (Y.move rfl) (by decide) ?_
        refine WL.gval rfl rfl (Y.move rfl) (by decide) ?_
        refine WL.gval rfl rfl (Y.move rfl) (by decide) ?_
        refine WL.gval rfl rfl (Y.indexAddrN Try.underlying27 rfl rfl sz0_apiOp (by omega)) (by decide) ?_
        refine WL.gval rfl rfl (Y.fieldAddr fo_apiOp2 rfl) (by decide) ?_
        refine WL.gval rfl rfl (Y.load Try.underlying61 rfl ((hma.ext hE).op2) (sz_apiRef _) rfl) (by decide) ?_
        refine WL.gcall rfl rfl Try.func48 rfl rfl rfl (rfind_any g ad rs av _ o.at_ _ (hRo.ext hE) hn) (by decide) ?_; rintro v w8 ⟨rfl, hx8⟩; have hz8 := hx8.size; have hE := hE.thenExt hx8; have hB4 := hB4.ext hx8
        refine WL.gval rfl rfl (Y.lss rfl rfl) (by decide) ?_
        refine WL.val (Y.pick rfl rfl) (by decide) ?_
        refine WL.nil ⟨⟨_, rfl, ?_⟩, (hx7.thenExt hx8), (by repeat (first | exact Fr.le.refl | refine Fr.le.push rfl ?_))⟩
        first | (simp only [*, Int.natCast_inj, Bool.not_eq_true', decide_eq_false_iff_not, decide_eq_true_eq, not_true_eq_false, not_false_eq_true, true_and, false_and, and_true, and_false, false_or, or_false, true_or, or_true, iff_true, true_iff, iff_false, false_iff]; done) | (simp_all; done) | (refine congrArg Value.bool (Bool.eq_iff_iff.2 ?_); simp_all; done) | (simp_all; omega)
      · -- t65 = F
        refine WL.goff rfl rfl (by decide) ?_
        refine WL.goff rfl rfl (by decide) ?_
        refine WL.goff rfl rfl (by decide) ?_
        refine WL.goff rfl rfl (by decide) ?_
        refine WL.goff rfl rfl (by decide) ?_
        refine WL.goff rfl rfl (by decide) ?_
        refine WL.goff rfl rfl (by decide) ?_
        refine WL.goff rfl rfl (by decide) ?_
        refine WL.val (Y.pick rfl rfl) (by decide) ?_
        refine WL.nil ⟨⟨_, rfl, ?_⟩, hx7, (by repeat (first | exact Fr.le.refl | refine Fr.le.push rfl ?_))⟩
        first | (simp only [*, Int.natCast_inj, Bool.not_eq_true', decide_eq_false_iff_not, decide_eq_true_eq, not_true_eq_false, not_false_eq_true, true_and, false_and, and_true, and_false, false_or, or_false, true_or, or_true, iff_true, true_iff, iff_false, false_iff]; done) | (simp_all; done) | (refine congrArg Value.bool (Bool.eq_iff_iff.2 ?_); simp_all; done) | (simp_all; omega)
    intro w9 hx9; have hz9 := hx9.size; have hE := hE.thenExt hx9; have hB4 := hB4.ext hx9
    first | refine CW.condD rfl (fun ht29 => ?_) (fun ht29 => ?_) | refine CW.condND rfl (fun ht29 => ?_) (fun ht29 => ?_) | refine CW.condN rfl (fun ht29 => ?_) (fun ht29 => ?_) | refine CW.cond rfl (fun ht29 => ?_) (fun ht29 => ?_)
    · -- then
      refine CW.seq fun K30 hK30 => ?_
      refine CW.region ?_
      refine WL.val (Y.assign rfl) (by decide) ?_
      refine WL.nil ?_
      refine hK30 _ _ ?_; try clear hK30 K30
      refine CW.ret ⟨_, rfl, ?_⟩
      have hwa : wrongAt (rels rs) ops x o = 5 := by rw [wrongAt, if_neg (by assumption), if_pos (by assumption)]
      exact ⟨by rw [wrongC, if_neg hnid, if_neg hn4, wrongN_end ho hwn (by rw [hwa]; decide), hwa], hE⟩
 
    refine CW.skip ?_
    refine hK23 _ _ ?_; try clear hK23 K23
    refine CW.region ?_
    refine WL.val (Y.move rfl) (by decide) ?_
    refine WL.val (Y.add rfl rfl ⟨by omega, by omega⟩) (by decide) ?_
    refine WL.val (Y.assign rfl) (by decide) ?_
    refine WL.nil ?_
    exact ⟨x + 1, (by show m - (x + 1) < m - x; omega), (by repeat (first | exact Fr.le.nil | refine Fr.le.cons rfl ?_)), (by show x + 1 ≤ m; omega), (by rw [wrongN_at ho hwn, wrongAt, if_neg (by assumption), if_neg (by assumption)]), hE, hB4⟩
  refine CW.exit ?_
  refine hK18 _ _ ?_; try clear hK18 K18
  refine CW.seq fun K31 hK31 => ?_
  refine CW.region ?_
  refine WL.val (Y.assign rfl) (by decide) ?_
  refine WL.nil ?_
  refine hK31 _ _ ?_; try clear hK31 K31
  refine CW.ret ⟨_, rfl, ?_⟩
  have hxe : x = ops.length := by omega
  exact ⟨by rw [wrongC, if_neg hnid, if_neg hn4, ← hxe, hwn], hE⟩
end Go.Proofs.Ytmndofgagngcgaa
