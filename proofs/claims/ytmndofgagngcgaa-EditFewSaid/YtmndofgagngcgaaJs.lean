/- diff.may, diff.Cost of a script, EditFew, walked. No condition. -/
import Derived.Test.YtmndofgagngcgaaJn
set_option linter.unusedSimpArgs false
set_option linter.unusedVariables false
namespace Go.Fu
open Go.Fw Go.Pl
theorem costE_take (l : List EdD) (k : Nat) : costE (l.take k) ≤ costE l := by
  have : costE l = costE (l.take k) + costE (l.drop k) := by rw [← costE_app, List.take_append_drop]
  omega
theorem opsR_self (e : List El) : opsR e (textE e) = [] := by
  unfold opsR
  split
  · exact ops_self e
  · rfl
theorem mkErr_self (a : List UInt8) : mkErr a a = 0 ↔ a.length ≤ 1000 := by
  unfold mkErr
  split
  · constructor
    · intro h; cases h
    · intro h; omega
  · exact ⟨fun _ => by omega, fun _ => rfl⟩
theorem script_n (a b : List UInt8) : ∀ x ∈ scriptE a b, x.n ≤ a.length := fun x hx => by
  rcases script_may a b x hx with ⟨hk, _, _⟩ | ⟨_, hn, _⟩
  · obtain ⟨i, hi⟩ := List.mem_iff_getElem?.1 hx
    have h2 := overE_take (scriptE a b) (i + 1)
    rw [script_over, Go.Pl.take_succ hi, overE_app] at h2
    have h3 : overE [x] = x.over := by simp [overE]
    have h4 : x.over = x.n := by unfold EdD.over; rw [if_neg (by omega)]
    omega
  · omega
end Go.Fu
namespace Go.Proofs.Ytmndofgagngcgaa
open Go.RowKit Go.Fw Go.Fu Go.Pl

theorem fmay_any (ed : EdD) (w : World) (hM : ed.May) : Calls Try.prog 46 #[.agg (edC ed).toArray] w (Ret fun v w' => v = .bool true ∧ Ext w w') := by
  refine calls_of_CW 26 [2] [(0, .agg (edC ed).toArray)] Try.func46 rfl rfl rfl (by simp) args1 ?_
  have hE : Ext w w := Chg.refl
  refine CW.seq fun K1 hK1 => ?_
  refine CW.region ?_
  refine WL.box rfl rfl (by decide) fun g1 w1 hx1 hg1 hB1 => ?_
  have hlt1 := hB1.lt; have hz1 := hx1.size
  have hM1 := hB1.mem; have hz1 := hx1.size; have hE := hE.thenExt hx1
  refine WL.val (Y.assign rfl) (by decide) ?_
  refine WL.nil ?_
  refine hK1 _ _ ?_; try clear hK1 K1
  refine CW.seq fun K2 hK2 => ?_
  refine CW.seq fun K3 hK3 => ?_
  refine CW.region ?_
  refine WL.val (Y.fieldAddr fo_apiEdit0 rfl) (by decide) ?_
  refine WL.val (Y.load1 Try.underlying3 rfl hB1.mem.apiEdit0 rfl) (by decide) ?_
  refine WL.nil ?_
  refine hK3 _ _ ?_; try clear hK3 K3
  refine CW.block ?_
  refine CW.seq_to (X := Bool) (fun q => [(1, .pointer (some ⟨g1, 0, none⟩)), (4, .int .i64 (ed.kind : Int)), (5, .bool q)]) (fun q w0 => Ext w1 w0 ∧ (q = true ↔ ((ed.kind : Int) = 1 ∨ (ed.kind : Int) = 2))) ?_ ?_
  · skip
    refine CW.seq fun K5 hK5 => ?_
    refine CW.region ?_
    refine WL.val (Y.eql rfl rfl) (by decide) ?_
    refine WL.val (Y.assign rfl) (by decide) ?_
    refine WL.nil ?_
    refine hK5 _ _ ?_; try clear hK5 K5
    first | refine CW.condD rfl (fun ht6 => ?_) (fun ht6 => ?_) | refine CW.condND rfl (fun ht6 => ?_) (fun ht6 => ?_) | refine CW.condN rfl (fun ht6 => ?_) (fun ht6 => ?_) | refine CW.cond rfl (fun ht6 => ?_) (fun ht6 => ?_)
    · -- then
      refine CW.skip ?_
      refine ⟨decide ((ed.kind : Int) = 1), (by repeat (first | exact Fr.le.nil | refine Fr.le.cons rfl ?_)), Chg.refl, by simp_all⟩
 
    refine CW.region ?_
    refine WL.val (Y.eql rfl rfl) (by decide) ?_
    refine WL.val (Y.assign rfl) (by decide) ?_
    refine WL.nil ?_
    refine ⟨decide ((ed.kind : Int) = 2), (by repeat (first | exact Fr.le.nil | refine Fr.le.cons rfl ?_)), Chg.refl, by simp_all⟩
  rintro u w2 hj2
  obtain ⟨hx2, hq⟩ := hj2
  have hz2 := hx2.size
  have hE := hE.thenExt hx2
  have hB1 := hB1.ext hx2
  first | refine CW.condD rfl (fun ht7 => ?_) (fun ht7 => ?_) | refine CW.condND rfl (fun ht7 => ?_) (fun ht7 => ?_) | refine CW.condN rfl (fun ht7 => ?_) (fun ht7 => ?_) | refine CW.cond rfl (fun ht7 => ?_) (fun ht7 => ?_)
  · -- then
    refine CW.seq fun K8 hK8 => ?_
    refine CW.region ?_
    refine WL.val (Y.fieldAddr fo_apiEdit1 rfl) (by decide) ?_
    refine WL.val (Y.load1 Try.underlying3 rfl hB1.mem.apiEdit1 rfl) (by decide) ?_
    refine WL.val (Y.gtr rfl rfl) (by decide) ?_
    refine WL.val (Y.move rfl) (by decide) ?_
    first | refine WL.casesD (d := 11) rfl (fun hg11 => ?_) (fun hg11 => ?_) | refine WL.casesND (d := 11) rfl (fun hg11 => ?_) (fun hg11 => ?_) | refine WL.cases (d := 11) rfl (fun hg11 => ?_) (fun hg11 => ?_)
    · -- t11 = T
      refine WL.gval rfl rfl (Y.fieldAddr fo_apiEdit2 rfl) (by decide) ?_
      refine WL.gval rfl rfl (Y.load1 Try.underlying9 rfl hB1.mem.apiEdit2 rfl) (by decide) ?_
      refine WL.gval rfl rfl (Y.eql_string rfl rfl) (by decide) ?_
      refine WL.val (Y.pick rfl rfl) (by decide) ?_
      refine WL.val (Y.assign rfl) (by decide) ?_
      refine WL.nil ?_
      refine hK8 _ _ ?_; try clear hK8 K8
      refine CW.ret ⟨_, rfl, ?_⟩
      rcases hM with ⟨_, _, ht⟩ | ⟨hk, _⟩
      · exact ⟨by rw [ht]; exact congrArg Value.bool (beq_self_eq_true _), hE⟩
      · exfalso; have h := hq.1 (by assumption); omega
    · -- t11 = F
      refine WL.goff rfl rfl (by decide) ?_
      refine WL.goff rfl rfl (by decide) ?_
      refine WL.goff rfl rfl (by decide) ?_
      refine WL.val (Y.pick rfl rfl) (by decide) ?_
      refine WL.val (Y.assign rfl) (by decide) ?_
      refine WL.nil ?_
      refine hK8 _ _ ?_; try clear hK8 K8
      refine CW.ret ⟨_, rfl, ?_⟩
      exfalso
      rcases hM with ⟨_, h0, _⟩ | ⟨hk, _⟩
      · simp_all
      · have h := hq.1 (by assumption); omega
  refine CW.seq fun K9 hK9 => ?_
  refine CW.region ?_
  refine WL.val (Y.eql rfl rfl) (by decide) ?_
  refine WL.val (Y.assign rfl) (by decide) ?_
  refine WL.nil ?_
  refine hK9 _ _ ?_; try clear hK9 K9
  first | refine CW.condD rfl (fun ht10 => ?_) (fun ht10 => ?_) | refine CW.condND rfl (fun ht10 => ?_) (fun ht10 => ?_) | refine CW.condN rfl (fun ht10 => ?_) (fun ht10 => ?_) | refine CW.cond rfl (fun ht10 => ?_) (fun ht10 => ?_)
  · -- then
    refine CW.seq fun K11 hK11 => ?_
    refine CW.region ?_
    refine WL.val (Y.fieldAddr fo_apiEdit1 rfl) (by decide) ?_
    refine WL.val (Y.load1 Try.underlying3 rfl hB1.mem.apiEdit1 rfl) (by decide) ?_
    refine WL.val (Y.eql rfl rfl) (by decide) ?_
    refine WL.val (Y.move rfl) (by decide) ?_
    first | refine WL.casesD (d := 21) rfl (fun hg21 => ?_) (fun hg21 => ?_) | refine WL.casesND (d := 21) rfl (fun hg21 => ?_) (fun hg21 => ?_) | refine WL.cases (d := 21) rfl (fun hg21 => ?_) (fun hg21 => ?_)
    · -- t21 = T
      refine WL.gval rfl rfl (Y.fieldAddr fo_apiEdit2 rfl) (by decide) ?_
      refine WL.gval rfl rfl (Y.load1 Try.underlying9 rfl hB1.mem.apiEdit2 rfl) (by decide) ?_
      refine WL.gval rfl rfl (Y.neq_string rfl rfl) (by decide) ?_
      refine WL.val (Y.pick rfl rfl) (by decide) ?_
      refine WL.val (Y.assign rfl) (by decide) ?_
      refine WL.nil ?_
      refine hK11 _ _ ?_; try clear hK11 K11
      refine CW.ret ⟨_, rfl, ?_⟩
      rcases hM with ⟨hk, _, _⟩ | ⟨_, _, ht⟩
      · exfalso; omega
      · exact ⟨by simpa [bs_toList] using ht, hE⟩
    · -- t21 = F
      refine WL.goff rfl rfl (by decide) ?_
      refine WL.goff rfl rfl (by decide) ?_
      refine WL.goff rfl rfl (by decide) ?_
      refine WL.val (Y.pick rfl rfl) (by decide) ?_
      refine WL.val (Y.assign rfl) (by decide) ?_
      refine WL.nil ?_
      refine hK11 _ _ ?_; try clear hK11 K11
      refine CW.ret ⟨_, rfl, ?_⟩
      exfalso
      rcases hM with ⟨hk, _, _⟩ | ⟨_, h0, _⟩ <;> omega
  refine CW.skip ?_
  refine hK2 _ _ ?_; try clear hK2 K2
  refine CW.seq fun K12 hK12 => ?_
  refine CW.region ?_
  refine WL.val (Y.assign rfl) (by decide) ?_
  refine WL.nil ?_
  refine hK12 _ _ ?_; try clear hK12 K12
  refine CW.ret ⟨_, rfl, ?_⟩
  exfalso
  rcases hM with ⟨hk, _, _⟩ | ⟨hk, _, _⟩
  · have h : u = true := hq.2 (by omega)
    simp_all
  · omega
theorem fcost_any (u : Value) (l : List EdD) (w : World) (hu : Sl w edC 3 u l) (hM : ∀ x ∈ l, x.May ∧ x.n ≤ 1000) (hc : costE l ≤ 1000000) : Calls Try.prog 25 #[u] w (Ret fun v w' => v = .tuple #[.int .i64 (costE l : Int), .int .i64 0] ∧ Ext w w') := by
  obtain ⟨A, m, c, rfl, hm, hmc, hcm, _⟩ := _root_.id hu
  unfold maxLen at hcm
  refine calls_of_CW 34 [2, 3] [(0, .slice A m c)] Try.func25 rfl rfl rfl (by simp) args1 ?_
  have hE : Ext w w := Chg.refl
  refine CW.seq fun K1 hK1 => ?_
  refine CW.region ?_
  refine WL.val (Y.assign rfl) (by decide) ?_
  refine WL.val (Y.assign rfl) (by decide) ?_
  refine WL.nil ?_
  refine hK1 _ _ ?_; try clear hK1 K1
  refine CW.seq fun K2 hK2 => ?_
  refine CW.region ?_
  refine WL.val (Y.assign rfl) (by decide) ?_
  refine WL.nil ?_
  refine hK2 _ _ ?_; try clear hK2 K2
  refine CW.seq fun K3 hK3 => ?_
  refine CW.seq fun K4 hK4 => ?_
  refine CW.region ?_
  refine WL.val (Y.move rfl) (by decide) ?_
  refine WL.val (Y.len_slice Try.underlying55 rfl) (by decide) ?_
  refine WL.val (Y.move rfl) (by decide) ?_
  refine WL.nil ?_
  refine hK4 _ _ ?_; try clear hK4 K4
  refine CW.block ?_
  refine CW.loop (X := Nat) (fun x => [(4, .int .i64 (costE (l.take x) : Int)), (7, .slice A m c), (8, .int .i64 (m : Int)), (9, .int .i64 (x : Int))]) (fun x w0 => x ≤ m ∧ Ext w w0) (fun x => m - x) 0 (by repeat (first | exact Fr.le.nil | refine Fr.le.cons rfl ?_)) ⟨Nat.zero_le _, hE⟩ ?_
  intro x w1 hl1
  obtain ⟨hx, hE⟩ := hl1
  refine CW.seq fun K5 hK5 => ?_
  refine CW.region ?_
  refine WL.val (Y.lss rfl rfl) (by decide) ?_
  refine WL.nil ?_
  refine hK5 _ _ ?_; try clear hK5 K5
  refine CW.seq fun K6 hK6 => ?_
  first | refine CW.condD rfl (fun ht7 => ?_) (fun ht7 => ?_) | refine CW.condND rfl (fun ht7 => ?_) (fun ht7 => ?_) | refine CW.condN rfl (fun ht7 => ?_) (fun ht7 => ?_) | refine CW.cond rfl (fun ht7 => ?_) (fun ht7 => ?_)
  · -- then
    refine CW.skip ?_
    refine hK6 _ _ ?_; try clear hK6 K6
    obtain ⟨ed, hed⟩ : ∃ ed, l[x]? = some ed := ⟨_, List.getElem?_eq_getElem (by omega)⟩
    obtain ⟨a, ha, hme⟩ := (hu.ext hE).get hed
    subst ha
    obtain ⟨hmy, hnl⟩ := hM ed (List.mem_of_getElem? hed)
    have hct := costE_take l (x + 1)
    have hcs : costE (l.take (x + 1)) = costE (l.take x) + ed.cost := by rw [Go.Pl.take_succ hed, costE_app]; simp [costE]
    have hcd : ed.cost = if ed.kind = 1 then 0 else ed.n + ed.text.length := rfl
    have hbs := bs_size ed.text
    refine CW.seq_to (X := Unit) (fun _ => [(4, .int .i64 (costE (l.take (x + 1)) : Int)), (7, .slice (some a) m c), (8, .int .i64 (m : Int)), (9, .int .i64 (x : Int))]) (fun _ w0 => Ext w1 w0) ?_ ?_
    · skip
      refine CW.block ?_
      refine CW.seq fun K9 hK9 => ?_
      refine CW.region ?_
      refine WL.val (Y.indexAddrN Try.underlying55 rfl rfl sz0_apiEdit (by omega)) (by decide) ?_
      refine WL.val (Y.load Try.underlying59 rfl hme (sz_apiEdit _) rfl) (by decide) ?_
      refine as_apiEdit rfl (by simp) (by decide) fun g6 w2 hx2 hg6 hB6 => ?_
      have hlt6 := hB6.lt; have hz2 := hx2.size
      have hM6 := hB6.mem; have hz2 := hx2.size; have hE := hE.thenExt hx2
      refine WL.nil ?_
      refine hK9 _ _ ?_; try clear hK9 K9
      refine CW.seq fun K10 hK10 => ?_
      refine CW.seq_testE 20 ((1000 : Int) < (ed.n : Int)) ?_ ?_
      · refine CW.region ?_
        refine WL.val (Y.load Try.underlying59 rfl hB6.mem (sz_apiEdit _) rfl) (by decide) ?_
        refine WL.call Try.func46 rfl rfl rfl (fmay_any ed _ hmy) (by simp) ?_; rintro v w3 ⟨rfl, hx3⟩; have hz3 := hx3.size; have hE := hE.thenExt hx3; have hB6 := hB6.ext hx3
        refine WL.val (Y.not rfl) (by decide) ?_
        refine WL.val (Y.move rfl) (by decide) ?_
        first | refine WL.casesD (d := 16) rfl (fun hg16 => ?_) (fun hg16 => ?_) | refine WL.casesND (d := 16) rfl (fun hg16 => ?_) (fun hg16 => ?_) | refine WL.cases (d := 16) rfl (fun hg16 => ?_) (fun hg16 => ?_)
        · -- t16 = T
          refine WL.goff rfl rfl (by decide) ?_
          refine WL.goff rfl rfl (by decide) ?_
          refine WL.goff rfl rfl (by decide) ?_
          refine WL.val (Y.pick rfl rfl) (by decide) ?_
          refine WL.nil ⟨⟨_, rfl, ?_⟩, hx3, (by repeat (first | exact Fr.le.refl | refine Fr.le.push rfl ?_))⟩
          first | (simp only [*, Int.natCast_inj, Bool.not_eq_true', decide_eq_false_iff_not, decide_eq_true_eq, not_true_eq_false, not_false_eq_true, true_and, false_and, and_true, and_false, false_or, or_false, true_or, or_true, iff_true, true_iff, iff_false, false_iff]; done) | (simp_all; done) | (refine congrArg Value.bool (Bool.eq_iff_iff.2 ?_); simp_all; done) | (simp_all; omega)
        · -- t16 = F
          refine WL.gval rfl rfl (Y.fieldAddr fo_apiEdit1 rfl) (by decide) ?_
          refine WL.gval rfl rfl (Y.load1 Try.underlying3 rfl hB6.mem.apiEdit1 rfl) (by decide) ?_
          refine WL.gval rfl rfl (Y.gtr rfl rfl) (by decide) ?_
          refine WL.val (Y.pick rfl rfl) (by decide) ?_
          refine WL.nil ⟨⟨_, rfl, ?_⟩, hx3, (by repeat (first | exact Fr.le.refl | refine Fr.le.push rfl ?_))⟩
          first | (simp only [*, Int.natCast_inj, Bool.not_eq_true', decide_eq_false_iff_not, decide_eq_true_eq, not_true_eq_false, not_false_eq_true, true_and, false_and, and_true, and_false, false_or, or_false, true_or, or_true, iff_true, true_iff, iff_false, false_iff]; done) | (simp_all; done) | (refine congrArg Value.bool (Bool.eq_iff_iff.2 ?_); simp_all; done) | (simp_all; omega)
      intro w4 hx4; have hz4 := hx4.size; have hE := hE.thenExt hx4; have hB6 := hB6.ext hx4
      first | refine CW.condD rfl (fun ht11 => ?_) (fun ht11 => ?_) | refine CW.condND rfl (fun ht11 => ?_) (fun ht11 => ?_) | refine CW.condN rfl (fun ht11 => ?_) (fun ht11 => ?_) | refine CW.cond rfl (fun ht11 => ?_) (fun ht11 => ?_)
      · -- then
        refine CW.seq fun K12 hK12 => ?_
        refine CW.region ?_
        refine WL.val (Y.assign rfl) (by decide) ?_
        refine WL.val (Y.assign rfl) (by decide) ?_
        refine WL.nil ?_
        refine hK12 _ _ ?_; try clear hK12 K12
        refine CW.ret ⟨_, rfl, ?_⟩
        exfalso; omega
   
      refine CW.skip ?_
      refine hK10 _ _ ?_; try clear hK10 K10
      refine CW.seq fun K13 hK13 => ?_
      refine CW.region ?_
      refine WL.val (Y.fieldAddr fo_apiEdit0 rfl) (by decide) ?_
      refine WL.val (Y.load1 Try.underlying3 rfl hB6.mem.apiEdit0 rfl) (by decide) ?_
      refine WL.val (Y.neq rfl rfl) (by decide) ?_
      refine WL.nil ?_
      refine hK13 _ _ ?_; try clear hK13 K13
      first | refine CW.condD rfl (fun ht14 => ?_) (fun ht14 => ?_) | refine CW.condND rfl (fun ht14 => ?_) (fun ht14 => ?_) | refine CW.condN rfl (fun ht14 => ?_) (fun ht14 => ?_) | refine CW.cond rfl (fun ht14 => ?_) (fun ht14 => ?_)
      · -- then
        have hcd2 : ed.cost = ed.n + ed.text.length := by rw [hcd, if_neg (by omega)]
        refine CW.region ?_
        refine WL.val (Y.move rfl) (by decide) ?_
        refine WL.val (Y.fieldAddr fo_apiEdit1 rfl) (by decide) ?_
        refine WL.val (Y.load1 Try.underlying3 rfl hB6.mem.apiEdit1 rfl) (by decide) ?_
        refine WL.val (Y.fieldAddr fo_apiEdit2 rfl) (by decide) ?_
        refine WL.val (Y.load1 Try.underlying9 rfl hB6.mem.apiEdit2 rfl) (by decide) ?_
        refine WL.val (Y.len_string Try.underlying9 rfl) (by decide) ?_
        refine WL.val (Y.add rfl rfl ⟨by omega, by omega⟩) (by decide) ?_
        refine WL.val (Y.add rfl rfl ⟨by omega, by omega⟩) (by decide) ?_
        refine WL.val (Y.assign rfl) (by decide) ?_
        refine WL.nil ?_
        exact ⟨(), (by repeat (first | exact Fr.le.nil | refine Fr.le.cons rfl ?_ | refine Fr.le.cons (by show some (Value.int .i64 _) = some (Value.int .i64 _); congr 2; omega) ?_)), hx2.thenExt hx4⟩
   
      refine CW.skip ?_
      have hcd2 : ed.cost = 0 := by rw [hcd, if_pos (by omega)]
      exact ⟨(), (by repeat (first | exact Fr.le.nil | refine Fr.le.cons rfl ?_ | refine Fr.le.cons (by show some (Value.int .i64 _) = some (Value.int .i64 _); congr 2; omega) ?_)), hx2.thenExt hx4⟩
    rintro u w5 hj5
    have hx5 := hj5
    have hz5 := hx5.size
    have hE := hE.thenExt hx5
    refine CW.region ?_
    refine WL.val (Y.add rfl rfl ⟨by omega, by omega⟩) (by decide) ?_
    refine WL.val (Y.move rfl) (by decide) ?_
    refine WL.nil ?_
    exact ⟨x + 1, (by show m - (x + 1) < m - x; omega), (by repeat (first | exact Fr.le.nil | refine Fr.le.cons rfl ?_)), (by show x + 1 ≤ m; omega), hE⟩
  refine CW.exit ?_
  refine hK3 _ _ ?_; try clear hK3 K3
  refine CW.seq fun K15 hK15 => ?_
  refine CW.region ?_
  refine WL.val (Y.move rfl) (by decide) ?_
  refine WL.val (Y.assign rfl) (by decide) ?_
  refine WL.val (Y.assign rfl) (by decide) ?_
  refine WL.nil ?_
  refine hK15 _ _ ?_; try clear hK15 K15
  refine CW.ret ⟨_, rfl, ?_⟩
  have hte : l.take x = l := List.take_of_length_le (by omega)
  exact ⟨by rw [hte], hE⟩
set_option maxHeartbeats 1000000 in
theorem few_any (u : Value) (l : List CmV) (b : List UInt8) (w : World) (hl : Cms w u l) (hb : b.length < 4611686018427387904) : Calls Try.prog 9 #[u, .string (bs b)] w (Ret fun v w' => v = .bool true ∧ Ext w w') := by
  obtain ⟨A, m, c, rfl, hm, hmc, hcm, _⟩ := _root_.id hl.sl
  unfold maxLen at hcm
  refine calls_of_CW 78 [4] [(0, .slice A m c), (1, .string (bs b))] Try.func9 rfl rfl rfl (by simp) args2 ?_
  have hE : Ext w w := Chg.refl
  refine CW.seq fun K1 hK1 => ?_
  refine CW.region ?_
  refine WL.val (Y.assign rfl) (by decide) ?_
  refine WL.nil ?_
  refine hK1 _ _ ?_; try clear hK1 K1
  refine CW.seq fun K2 hK2 => ?_
  refine CW.region ?_
  refine WL.val (Y.move rfl) (by decide) ?_
  refine WL.call Try.func10 rfl rfl rfl (grown_any _ l _ (hl.ext hE)) (by simp) ?_; rintro v18 w1 hR1
  obtain ⟨g, rb, ra, ns, gr, rs, av, ev_, L, T, rfl, hA⟩ := hR1
  have hz1 := hA.ext.size
  have hE := hE.thenExt hA.ext
  have hT1 := hA.ft
  have hfe := hA.fe
  have hok := hA.ok
  have hG : Fu.Good (Fw.els ns) := by rw [hfe]; exact hok.good
  have hel : (Fw.els ns).length = ns.length := List.length_map _
  have hn5 : ns.length ≤ 400001 := by rw [← hel, hfe]; exact hok.few
  have htl : (textE (Fw.els ns)).length = liveN ns := by
    have h1 : (seenE (Fw.els ns)).length = liveN ns := hG.seen_length
    rw [← h1]; simp [textE]
  have hlv : liveN ns ≤ 400001 := by
    have h1 := List.countP_le_length (p := fun x : El => !x.gone) (l := Fw.els ns)
    rw [hel] at h1; exact Nat.le_trans h1 hn5
  refine WL.val (Y.move rfl) (by decide) ?_
  refine WL.val (Y.extract rfl rfl) (by decide) ?_
  refine WL.val (Y.extract rfl rfl) (by decide) ?_
  refine WL.val (Y.extract rfl rfl) (by decide) ?_
  refine WL.val (Y.assign rfl) (by decide) ?_
  refine WL.val (Y.assign rfl) (by decide) ?_
  refine WL.val (Y.assign rfl) (by decide) ?_
  refine WL.nil ?_
  refine hK2 _ _ ?_; try clear hK2 K2
  refine CW.seq fun K3 hK3 => ?_
  refine CW.seq fun K4 hK4 => ?_
  refine CW.region ?_
  refine WL.val (Y.move rfl) (by decide) ?_
  refine WL.val (Y.not rfl) (by decide) ?_
  refine WL.nil ?_
  refine hK4 _ _ ?_; try clear hK4 K4
  first | refine CW.condD rfl (fun ht5 => ?_) (fun ht5 => ?_) | refine CW.condND rfl (fun ht5 => ?_) (fun ht5 => ?_) | refine CW.condN rfl (fun ht5 => ?_) (fun ht5 => ?_) | refine CW.cond rfl (fun ht5 => ?_) (fun ht5 => ?_)
  · -- then
    refine CW.seq fun K6 hK6 => ?_
    refine CW.region ?_
    refine WL.val (Y.assign rfl) (by decide) ?_
    refine WL.nil ?_
    refine hK6 _ _ ?_; try clear hK6 K6
    refine CW.ret ⟨_, rfl, ?_⟩
    first | exact absurd rfl (by assumption) | (simp_all; done)
  refine CW.skip ?_
  refine hK3 _ _ ?_; try clear hK3 K3
  refine CW.seq fun K7 hK7 => ?_
  refine CW.region ?_
  refine WL.val (Y.move rfl) (by decide) ?_
  refine WL.val (Y.move rfl) (by decide) ?_
  refine WL.call Try.func14 rfl rfl rfl (ftext_any g rb ra _ ns _ hT1 hG hn5) (by simp) ?_; rintro v w2 ⟨rfl, hx2⟩; have hz2 := hx2.size; have hE := hE.thenExt hx2
  refine WL.call Try.func11 rfl rfl rfl (fops_any g rb ra _ ns (textE (Fw.els ns)) _ (hT1.ext hx2) hG hn5 (by omega)) (by simp) ?_; rintro v28 w3 hR3
  obtain ⟨u1, rfl, hO1, hf1, hx3⟩ := hR3
  have hz3 := hx3.size
  have hE := hE.thenExt hx3
  rw [opsR_self] at hO1
  obtain ⟨A1, m1, c1, rfl⟩ := hO1.lens
  have hm1 : m1 = 0 := by have h := (hO1.len opC_length (by decide)).1; rw [← h]; rfl
  refine WL.val (Y.move rfl) (by decide) ?_
  refine WL.val (Y.extract rfl rfl) (by decide) ?_
  refine WL.val (Y.extract rfl rfl) (by decide) ?_
  refine WL.val (Y.assign rfl) (by decide) ?_
  refine WL.val (Y.assign rfl) (by decide) ?_
  refine WL.nil ?_
  refine hK7 _ _ ?_; try clear hK7 K7
  refine CW.seq fun K8 hK8 => ?_
  refine CW.region ?_
  refine WL.val (Y.move rfl) (by decide) ?_
  refine WL.val (Y.move rfl) (by decide) ?_
  refine WL.call Try.func11 rfl rfl rfl (fops_any g rb ra _ ns b _ ((hT1.ext hx2).ext hx3) hG hn5 hb) (by simp) ?_; rintro v34 w4 hR4
  obtain ⟨u2, rfl, hO2, hf2, hx4⟩ := hR4
  have hz4 := hx4.size
  have hE := hE.thenExt hx4
  obtain ⟨A2, m2, c2, rfl⟩ := hO2.lens
  have hm2 := (hO2.len opC_length (by decide)).1
  refine WL.val (Y.move rfl) (by decide) ?_
  refine WL.val (Y.extract rfl rfl) (by decide) ?_
  refine WL.val (Y.extract rfl rfl) (by decide) ?_
  refine WL.val (Y.assign rfl) (by decide) ?_
  refine WL.val (Y.assign rfl) (by decide) ?_
  refine WL.nil ?_
  refine hK8 _ _ ?_; try clear hK8 K8
  refine CW.seq fun K9 hK9 => ?_
  refine CW.region ?_
  refine WL.val (Y.move rfl) (by decide) ?_
  refine WL.call Try.func14 rfl rfl rfl (ftext_any g rb ra _ ns _ (((hT1.ext hx2).ext hx3).ext hx4) hG hn5) (by simp) ?_; rintro v w5 ⟨rfl, hx5⟩; have hz5 := hx5.size; have hE := hE.thenExt hx5
  refine WL.val (Y.move rfl) (by decide) ?_
  refine WL.call Try.func23 rfl rfl rfl (fmake_any (textE (Fw.els ns)) b _ (by omega) hb) (by simp) ?_; rintro v41 w6 hR6
  obtain ⟨ul, rfl, hOl, hfl, hx6⟩ := hR6
  have hz6 := hx6.size
  have hE := hE.thenExt hx6
  refine WL.val (Y.move rfl) (by decide) ?_
  refine WL.val (Y.extract rfl rfl) (by decide) ?_
  refine WL.val (Y.extract rfl rfl) (by decide) ?_
  refine WL.val (Y.assign rfl) (by decide) ?_
  refine WL.val (Y.assign rfl) (by decide) ?_
  refine WL.nil ?_
  refine hK9 _ _ ?_; try clear hK9 K9
  refine CW.seq fun K10 hK10 => ?_
  refine CW.region ?_
  refine WL.val (Y.move rfl) (by decide) ?_
  refine WL.call Try.func25 rfl rfl rfl (fcost_any ul (mkE (textE (Fw.els ns)) b) _ (hOl.sl edC_length (by decide)) (fun x hx => by
    rcases Decidable.em (mkErr (textE (Fw.els ns)) b = 0) with h0 | h0
    · obtain ⟨h1, h2, _⟩ := mkE_ok h0
      rw [h1] at hx
      exact ⟨script_may _ _ x hx, Nat.le_trans (script_n _ _ x hx) h2⟩
    · rw [mkE_bad h0] at hx; cases hx) (by
    rcases Decidable.em (mkErr (textE (Fw.els ns)) b = 0) with h0 | h0
    · obtain ⟨h1, h2, h3⟩ := mkE_ok h0
      rw [h1, script_cost]
      have := cst_le (textE (Fw.els ns)) b
      omega
    · rw [mkE_bad h0]; simp [costE])) (by simp) ?_; rintro v w7 ⟨rfl, hx7⟩; have hz7 := hx7.size; have hE := hE.thenExt hx7
  refine WL.val (Y.move rfl) (by decide) ?_
  refine WL.val (Y.extract rfl rfl) (by decide) ?_
  refine WL.val (Y.extract rfl rfl) (by decide) ?_
  refine WL.val (Y.assign rfl) (by decide) ?_
  refine WL.val (Y.assign rfl) (by decide) ?_
  refine WL.nil ?_
  refine hK10 _ _ ?_; try clear hK10 K10
  refine CW.seq fun K11 hK11 => ?_
  have hq1 : ((mkErr (textE (Fw.els ns)) (textE (Fw.els ns)) : Nat) : Int) = 0 ↔ (liveN ns : Int) ≤ 1000 := by have := mkErr_self (textE (Fw.els ns)); omega
  have hq2 : ((mkErr (textE (Fw.els ns)) b : Nat) : Int) = 0 → (m2 : Int) = (costE (mkE (textE (Fw.els ns)) b) : Int) := fun h => by
    have h0 : mkErr (textE (Fw.els ns)) b = 0 := by omega
    rw [(mkE_ok h0).1, script_cost, ← ops_length, ← hm2, opsR, if_pos h0]
  obtain ⟨e1, he1⟩ : ∃ e1 : Int, e1 = ((mkErr (textE (Fw.els ns)) (textE (Fw.els ns)) : Nat) : Int) := ⟨_, rfl⟩
  obtain ⟨e2, he2⟩ : ∃ e2 : Int, e2 = ((mkErr (textE (Fw.els ns)) b : Nat) : Int) := ⟨_, rfl⟩
  obtain ⟨e3, he3⟩ : ∃ e3 : Int, e3 = (costE (mkE (textE (Fw.els ns)) b) : Int) := ⟨_, rfl⟩
  rw [← he1, ← he2, ← he3]
  rw [← he1] at hq1
  rw [← he2, ← he3] at hq2
  subst hm1
  refine CW.region ?_
  refine WL.val (Y.move rfl) (by decide) ?_
  refine WL.val (Y.len_slice Try.underlying27 rfl) (by decide) ?_
  refine WL.val (Y.eql rfl rfl) (by decide) ?_
  refine WL.val (Y.move rfl) (by decide) ?_
  first | refine WL.casesD (d := 52) rfl (fun hg52 => ?_) (fun hg52 => ?_) | refine WL.casesND (d := 52) rfl (fun hg52 => ?_) (fun hg52 => ?_) | refine WL.cases (d := 52) rfl (fun hg52 => ?_) (fun hg52 => ?_)
  · -- t52 = T
    refine WL.gval rfl rfl (Y.move rfl) (by decide) ?_
    refine WL.gval rfl rfl (Y.eql rfl rfl) (by decide) ?_
    refine WL.gval rfl rfl (Y.move rfl) (by decide) ?_
    refine WL.gcall rfl rfl Try.func20 rfl rfl rfl (flen_any g rb ra _ ns _ ((((((hT1.ext hx2).ext hx3).ext hx4).ext hx5).ext hx6).ext hx7)) (by decide) ?_; rintro v w8 ⟨rfl, hx8⟩; have hz8 := hx8.size; have hE := hE.thenExt hx8
    refine WL.gval rfl rfl (Y.leq rfl rfl) (by decide) ?_
    refine WL.gval rfl rfl (Y.eql_bool Try.underlying4 rfl rfl) (by decide) ?_
    refine WL.val (Y.pick rfl rfl) (by decide) ?_
    refine WL.val (Y.move rfl) (by decide) ?_
    first | refine WL.casesD (d := 60) rfl (fun hg60 => ?_) (fun hg60 => ?_) | refine WL.casesND (d := 60) rfl (fun hg60 => ?_) (fun hg60 => ?_) | refine WL.cases (d := 60) rfl (fun hg60 => ?_) (fun hg60 => ?_)
    · -- t60 = T
      refine WL.gval rfl rfl (Y.move rfl) (by decide) ?_
      refine WL.gval rfl rfl (Y.move rfl) (by decide) ?_
      refine WL.gval rfl rfl (Y.eql rfl rfl) (by decide) ?_
      refine WL.val (Y.pick rfl rfl) (by decide) ?_
      refine WL.val (Y.move rfl) (by decide) ?_
      first | refine WL.casesD (d := 65) rfl (fun hg65 => ?_) (fun hg65 => ?_) | refine WL.casesND (d := 65) rfl (fun hg65 => ?_) (fun hg65 => ?_) | refine WL.cases (d := 65) rfl (fun hg65 => ?_) (fun hg65 => ?_)
      · -- t65 = T
        refine WL.gval rfl rfl (Y.move rfl) (by decide) ?_
        refine WL.gval rfl rfl (Y.neq rfl rfl) (by decide) ?_
        refine WL.gval rfl rfl (Y.move rfl) (by decide) ?_
        first | refine WL.casesD (d := 68) rfl (fun hg68 => ?_) (fun hg68 => ?_) | refine WL.casesND (d := 68) rfl (fun hg68 => ?_) (fun hg68 => ?_) | refine WL.cases (d := 68) rfl (fun hg68 => ?_) (fun hg68 => ?_)
        · -- t68 = T
          refine WL.goff rfl rfl (by decide) ?_
          refine WL.goff rfl rfl (by decide) ?_
          refine WL.goff rfl rfl (by decide) ?_
          refine WL.goff rfl rfl (by decide) ?_
          refine WL.gval rfl rfl (Y.pick rfl rfl) (by decide) ?_
          refine WL.val (Y.pick rfl rfl) (by decide) ?_
          refine WL.val (Y.move rfl) (by decide) ?_
          refine WL.gcall rfl rfl Try.func16 rfl rfl rfl (ealive_any _) (by decide) ?_; rintro v w9 ⟨rfl, hx9⟩; have hz9 := hx9.size; have hE := hE.thenExt hx9
          refine WL.val (Y.pick rfl rfl) (by decide) ?_
          refine WL.val (Y.assign rfl) (by decide) ?_
          refine WL.nil ?_
          refine hK11 _ _ ?_; try clear hK11 K11
          refine CW.ret ⟨_, rfl, ?_⟩
          exact ⟨rfl, hE⟩
        · -- t68 = F
          refine WL.gval rfl rfl (Y.move rfl) (by decide) ?_
          refine WL.gval rfl rfl (Y.len_slice Try.underlying27 rfl) (by decide) ?_
          refine WL.gval rfl rfl (Y.move rfl) (by decide) ?_
          refine WL.gval rfl rfl (Y.eql rfl rfl) (by decide) ?_
          refine WL.gval rfl rfl (Y.pick rfl rfl) (by decide) ?_
          refine WL.val (Y.pick rfl rfl) (by decide) ?_
          refine WL.val (Y.move rfl) (by decide) ?_
          first | refine WL.casesD (d := 75) rfl (fun hg75 => ?_) (fun hg75 => ?_) | refine WL.casesND (d := 75) rfl (fun hg75 => ?_) (fun hg75 => ?_) | refine WL.cases (d := 75) rfl (fun hg75 => ?_) (fun hg75 => ?_)
          · -- t75 = T
            refine WL.gcall rfl rfl Try.func16 rfl rfl rfl (ealive_any _) (by decide) ?_; rintro v w10 ⟨rfl, hx10⟩; have hz10 := hx10.size; have hE := hE.thenExt hx10
            refine WL.val (Y.pick rfl rfl) (by decide) ?_
            refine WL.val (Y.assign rfl) (by decide) ?_
            refine WL.nil ?_
            refine hK11 _ _ ?_; try clear hK11 K11
            refine CW.ret ⟨_, rfl, ?_⟩
            exact ⟨rfl, hE⟩
          · -- t75 = F
            refine WL.goff rfl rfl (by decide) ?_
            refine WL.val (Y.pick rfl rfl) (by decide) ?_
            refine WL.val (Y.assign rfl) (by decide) ?_
            refine WL.nil ?_
            refine hK11 _ _ ?_; try clear hK11 K11
            refine CW.ret ⟨_, rfl, ?_⟩
            first | (exfalso; simp_all; done) | (exfalso; omega)
      · -- t65 = F
        refine WL.goff rfl rfl (by decide) ?_
        refine WL.goff rfl rfl (by decide) ?_
        refine WL.goff rfl rfl (by decide) ?_
        refine WL.goffU rfl rfl (by decide) ?_
        refine WL.goffU rfl rfl (by decide) ?_
        refine WL.goffU rfl rfl (by decide) ?_
        refine WL.goffU rfl rfl (by decide) ?_
        refine WL.goff rfl rfl (by decide) ?_
        refine WL.val (Y.pick rfl rfl) (by decide) ?_
        refine WL.val (Y.move rfl) (by decide) ?_
        refine WL.goff rfl rfl (by decide) ?_
        refine WL.val (Y.pick rfl rfl) (by decide) ?_
        refine WL.val (Y.assign rfl) (by decide) ?_
        refine WL.nil ?_
        refine hK11 _ _ ?_; try clear hK11 K11
        refine CW.ret ⟨_, rfl, ?_⟩
        first | (exfalso; simp_all; done) | (exfalso; omega)
    · -- t60 = F
      refine WL.goff rfl rfl (by decide) ?_
      refine WL.goff rfl rfl (by decide) ?_
      refine WL.goff rfl rfl (by decide) ?_
      refine WL.val (Y.pick rfl rfl) (by decide) ?_
      refine WL.val (Y.move rfl) (by decide) ?_
      refine WL.goff rfl rfl (by decide) ?_
      refine WL.goff rfl rfl (by decide) ?_
      refine WL.goff rfl rfl (by decide) ?_
      refine WL.goffU rfl rfl (by decide) ?_
      refine WL.goffU rfl rfl (by decide) ?_
      refine WL.goffU rfl rfl (by decide) ?_
      refine WL.goffU rfl rfl (by decide) ?_
      refine WL.goff rfl rfl (by decide) ?_
      refine WL.val (Y.pick rfl rfl) (by decide) ?_
      refine WL.val (Y.move rfl) (by decide) ?_
      refine WL.goff rfl rfl (by decide) ?_
      refine WL.val (Y.pick rfl rfl) (by decide) ?_
      refine WL.val (Y.assign rfl) (by decide) ?_
      refine WL.nil ?_
      refine hK11 _ _ ?_; try clear hK11 K11
      refine CW.ret ⟨_, rfl, ?_⟩
      first | (exfalso; simp_all; done) | (exfalso; omega)
  · -- t52 = F
    refine WL.goff rfl rfl (by decide) ?_
    refine WL.goff rfl rfl (by decide) ?_
    refine WL.goff rfl rfl (by decide) ?_
    refine WL.goff rfl rfl (by decide) ?_
    refine WL.goff rfl rfl (by decide) ?_
    refine WL.goff rfl rfl (by decide) ?_
    refine WL.val (Y.pick rfl rfl) (by decide) ?_
    refine WL.val (Y.move rfl) (by decide) ?_
    refine WL.goff rfl rfl (by decide) ?_
    refine WL.goff rfl rfl (by decide) ?_
    refine WL.goff rfl rfl (by decide) ?_
    refine WL.val (Y.pick rfl rfl) (by decide) ?_
    refine WL.val (Y.move rfl) (by decide) ?_
    refine WL.goff rfl rfl (by decide) ?_
    refine WL.goff rfl rfl (by decide) ?_
    refine WL.goff rfl rfl (by decide) ?_
    refine WL.goffU rfl rfl (by decide) ?_
    refine WL.goffU rfl rfl (by decide) ?_
    refine WL.goffU rfl rfl (by decide) ?_
    refine WL.goffU rfl rfl (by decide) ?_
    refine WL.goff rfl rfl (by decide) ?_
    refine WL.val (Y.pick rfl rfl) (by decide) ?_
    refine WL.val (Y.move rfl) (by decide) ?_
    refine WL.goff rfl rfl (by decide) ?_
    refine WL.val (Y.pick rfl rfl) (by decide) ?_
    refine WL.val (Y.assign rfl) (by decide) ?_
    refine WL.nil ?_
    refine hK11 _ _ ?_; try clear hK11 K11
    refine CW.ret ⟨_, rfl, ?_⟩
    first | (exfalso; simp_all; done) | (exfalso; omega)
end Go.Proofs.Ytmndofgagngcgaa
