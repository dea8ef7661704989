/- EditKeeps, walked. No condition. -/
import Derived.Test.YtmndofgagngcgaaJn
import Derived.Test.YtmndofgagngcgaaJx
set_option linter.unusedSimpArgs false
set_option linter.unusedVariables false
namespace Go.Fu
open Go.Fw Go.Pl
theorem refT_was {e : List El} {k i : Nat} (h : (seenE e)[k]? = some i) : refT e k = (nm e i, true) := by
  have hl := (List.getElem?_eq_some_iff.1 h).1
  rw [refT, if_neg (by omega)]
  simp [h]
/-- What edit by edit is shown. -/
def edW (q : List Nat) (x : Nat × Nat × List Nat) (ed : EdD) : Nat × Nat × List Nat :=
  if ed.kind = 1 then (x.1 + ed.n, x.2.1, x.2.2 ++ (List.range ed.n).map fun j => (q[x.1 + j]?).getD 0)
  else if ed.kind = 2 then (x.1 + ed.n, x.2.1, x.2.2)
  else (x.1, x.2.1 + ed.text.length, x.2.2 ++ (List.range ed.text.length).map fun j => x.2.1 + j)
theorem edW_step {q : List Nat} {x : Nat × Nat × List Nat} {ed : EdD} {s : Stp} (h : ed.kind = s.kind) : edW q x (ed.more s) = stepW q (edW q x ed) s := by
  obtain ⟨k, n, t⟩ := ed
  cases s with
  | keep => simp only [Stp.kind] at h; subst h; simp [edW, EdD.more, stepW, List.range_succ]; omega
  | cut => simp only [Stp.kind] at h; subst h; simp [edW, EdD.more, stepW]; omega
  | put y => simp only [Stp.kind] at h; subst h; simp [edW, EdD.more, stepW, List.range_succ]; omega
theorem edW_new {q : List Nat} {x : Nat × Nat × List Nat} {s : Stp} : edW q x (EdD.more ⟨s.kind, 0, []⟩ s) = stepW q x s := by
  rw [edW_step rfl]
  have : edW q x ⟨s.kind, 0, []⟩ = x := by cases s <;> simp [edW, Stp.kind]
  rw [this]
theorem edW_all {q : List Nat} {st : Nat × Nat × List Nat} : ∀ (ss : List Stp) (l : List EdD), (ss.foldl addE l).foldl (edW q) st = ss.foldl (stepW q) (l.foldl (edW q) st)
  | [], l => rfl
  | s :: r, l => by
    rw [List.foldl_cons, edW_all r, List.foldl_cons]
    congr 1
    by_cases hk : l.getLast?.map EdD.kind = some s.kind
    · obtain ⟨x, hx, hxk⟩ := Option.map_eq_some_iff.1 hk
      rw [List.getLast?_eq_some_iff] at hx
      obtain ⟨l0, rfl⟩ := hx
      rw [addE_same hxk, List.foldl_append, List.foldl_append]
      exact edW_step hxk
    · rw [addE_else hk, List.foldl_append]
      exact edW_new
/-- How much of the new text an edit stands for. -/
def EdD.made (e : EdD) : Nat := if e.kind = 1 then e.n else if e.kind = 3 then e.text.length else 0
def madeE (l : List EdD) : Nat := (l.map EdD.made).sum
theorem madeE_app (l m : List EdD) : madeE (l ++ m) = madeE l + madeE m := by simp [madeE]
theorem edW_fold {q : List Nat} : ∀ (l : List EdD) (st : Nat × Nat × List Nat), (∀ x ∈ l, x.May) → ∃ more, (l.foldl (edW q) st).2.2 = st.2.2 ++ more ∧ more.length = madeE l ∧ (l.foldl (edW q) st).1 = st.1 + overE l
  | [], st, _ => ⟨[], by simp, rfl, by simp [overE]⟩
  | x :: r, st, hm => by
    obtain ⟨m2, h1, h2, h3⟩ := edW_fold r (edW q st x) fun y hy => hm y (by simp [hy])
    have hx := hm x (by simp)
    have e1 : madeE (x :: r) = x.made + madeE r := by simp [madeE]
    have e2 : overE (x :: r) = x.over + overE r := by simp [overE]
    rw [List.foldl_cons]
    obtain ⟨k, n, t⟩ := x
    rcases hx with ⟨hk | hk, _, _⟩ | ⟨hk, _, _⟩ <;> simp only at hk <;> subst hk
    · refine ⟨((List.range n).map fun j => (q[st.1 + j]?).getD 0) ++ m2, by rw [h1]; simp [edW], by simp [h2, e1, EdD.made], by rw [h3, e2]; simp [edW, EdD.over]; omega⟩
    · refine ⟨m2, by rw [h1]; simp [edW], by simp [h2, e1, EdD.made], by rw [h3, e2]; simp [edW, EdD.over]; omega⟩
    · refine ⟨((List.range t.length).map fun j => st.2.1 + j) ++ m2, by rw [h1]; simp [edW], by simp [h2, e1, EdD.made], by rw [h3, e2]; simp [edW, EdD.over]⟩
/-- What a script keeps stays the same elements. -/
theorem keeps_at {L : Coms} {T : Tr} {id : Dig} (h : TreeOk L T) {b : List UInt8} (hw : wrongC T id (opsE T.e b) = 0) {m : Nat} {ed : EdD} (hm : (scriptE (textE T.e) b)[m]? = some ed) (hk : ed.kind = 1) {n : Nat} (hn : n < ed.n) :
    ∃ q, (seenE T.e)[overE ((scriptE (textE T.e) b).take m) + n]? = some q ∧ (seenE (addT T id (opsE T.e b)).e)[madeE ((scriptE (textE T.e) b).take m) + n]? = some q ∧ nm (addT T id (opsE T.e b)).e q = nm T.e q := by
  have hov := opsAt_over hm
  rw [(opsAt_inv T.e b m).at_] at hov
  have hov2 : ed.over = ed.n := by unfold EdD.over; rw [if_neg (by omega)]
  obtain ⟨q, hq⟩ : ∃ q, (seenE T.e)[overE ((scriptE (textE T.e) b).take m) + n]? = some q := ⟨_, List.getElem?_eq_getElem (by omega)⟩
  have hs := (ops_tree h hw).2
  have hall : (scriptE (textE T.e) b).foldl (edW (seenE T.e)) (0, T.e.length, []) = (stp (textE T.e) b).foldl (stepW (seenE T.e)) (0, T.e.length, []) := edW_all _ []
  have hmay := script_may (textE T.e) b
  have e : scriptE (textE T.e) b = (scriptE (textE T.e) b).take m ++ ed :: (scriptE (textE T.e) b).drop (m + 1) := by
    have hlt := (List.getElem?_eq_some_iff.1 hm).1
    conv => lhs; rw [← List.take_append_drop m (scriptE (textE T.e) b)]
    rw [List.drop_eq_getElem_cons hlt, (List.getElem?_eq_some_iff.1 hm).2]
  refine ⟨q, hq, ?_, ?_⟩
  · rw [hs, ← hall, e, List.foldl_append, List.foldl_cons]
    obtain ⟨w1, h1, h2, h3⟩ := edW_fold (q := seenE T.e) ((scriptE (textE T.e) b).take m) (0, T.e.length, []) fun x hx => hmay x (List.mem_of_mem_take hx)
    generalize hst : ((scriptE (textE T.e) b).take m).foldl (edW (seenE T.e)) (0, T.e.length, []) = st at h1 h3 ⊢
    obtain ⟨w2, h4, _, _⟩ := edW_fold (q := seenE T.e) ((scriptE (textE T.e) b).drop (m + 1)) (edW (seenE T.e) st ed) fun x hx => hmay x (List.mem_of_mem_drop hx)
    rw [← e, h4]
    have h5 : (edW (seenE T.e) st ed).2.2 = st.2.2 ++ (List.range ed.n).map fun j => ((seenE T.e)[st.1 + j]?).getD 0 := by rw [edW, if_pos hk]
    simp only [List.nil_append, Nat.zero_add] at h1 h3
    rw [h5, h1, List.append_assoc, List.getElem?_append_right (by omega), ← h2, Nat.add_sub_cancel_left, List.getElem?_append_left (by simpa using hn), List.getElem?_map, List.getElem?_range hn]
    simp [h3, hq]
  · obtain ⟨z, hz⟩ : ∃ z, T.e[q]? = some z := ⟨_, List.getElem?_eq_getElem (seen_lt h.good.down (List.mem_of_getElem? hq))⟩
    obtain ⟨y, hy, hyn, _⟩ := addN_old (id := id) (ops := opsE T.e b) (k := (opsE T.e b).length) hz
    have : (addT T id (opsE T.e b)).e = addN id (opsE T.e b) T.e (opsE T.e b).length := by rw [addT, if_pos hw]
    rw [this, nm_at hy, nm_at hz, hyn]
theorem made_le {L : Coms} {T : Tr} {id : Dig} (h : TreeOk L T) {b : List UInt8} (hw : wrongC T id (opsE T.e b) = 0) (m : Nat) : madeE ((scriptE (textE T.e) b).take m) ≤ b.length := by
  obtain ⟨h1, h2⟩ := ops_tree h hw
  have hall : (scriptE (textE T.e) b).foldl (edW (seenE T.e)) (0, T.e.length, []) = (stp (textE T.e) b).foldl (stepW (seenE T.e)) (0, T.e.length, []) := edW_all _ []
  obtain ⟨w, h3, h4, _⟩ := edW_fold (q := seenE T.e) (scriptE (textE T.e) b) (0, T.e.length, []) (script_may _ _)
  rw [hall, ← h2] at h3
  have h5 : b.length = madeE (scriptE (textE T.e) b) := by
    rw [← h4]
    have h6 := congrArg List.length h1
    rw [textE, List.length_map, h3] at h6
    simpa using h6.symm
  have h7 : madeE (scriptE (textE T.e) b) = madeE ((scriptE (textE T.e) b).take m) + madeE ((scriptE (textE T.e) b).drop m) := by rw [← madeE_app, List.take_append_drop]
  omega
theorem over_or (e : EdD) : (e.kind = 3 ∧ e.over = 0) ∨ (e.kind ≠ 3 ∧ e.over = e.n) := by
  unfold EdD.over; split <;> simp_all
theorem made_or (e : EdD) : (e.kind = 1 ∧ e.made = e.n) ∨ (e.kind = 3 ∧ e.made = e.text.length) ∨ (e.kind ≠ 1 ∧ e.kind ≠ 3 ∧ e.made = 0) := by
  unfold EdD.made; split
  · exact .inl ⟨by assumption, rfl⟩
  · split
    · exact .inr (.inl ⟨by assumption, rfl⟩)
    · exact .inr (.inr ⟨by assumption, by assumption, rfl⟩)
end Go.Fu
namespace Go.Proofs.Ytmndofgagngcgaa
open Go.RowKit Go.Fw Go.Fu Go.Pl

set_option maxRecDepth 100000 in
set_option maxHeartbeats 4000000 in
theorem keeps10_any (u : Value) (l : List CmV) (id : Dig) (b : List UInt8) (w : World) (hl : Cms w u l) (hb : b.length < 4611686018427387904) : Calls Try.prog 7 #[u, digV id, .string (bs b)] w (Ret fun v w' => v = .bool true ∧ Ext w w') := by
  obtain ⟨A, m, c, rfl, hm, hmc, hcm, _⟩ := _root_.id hl.sl
  unfold maxLen at hcm
  refine calls_of_CW 129 [6] [(0, .slice A m c), (1, digV id), (2, .string (bs b))] Try.func7 rfl rfl rfl (by simp) args3 ?_
  have hE : Ext w w := Chg.refl
  refine CW.seq fun K1 hK1 => ?_
  refine CW.region ?_
  refine WL.box rfl rfl (by decide) fun g4 w1 hx1 hg4 hB4 => ?_
  have hlt4 := hB4.lt; have hz1 := hx1.size
  have hM4 := hB4.mem; have hz1 := hx1.size; have hE := hE.thenExt hx1
  refine WL.val (Y.assign rfl) (by decide) ?_
  refine WL.nil ?_
  refine hK1 _ _ ?_; try clear hK1 K1
  refine CW.seq fun K2 hK2 => ?_
  refine CW.region ?_
  refine WL.val (Y.move rfl) (by decide) ?_
  refine WL.call Try.func10 rfl rfl rfl (grown_any _ l _ (hl.ext hE)) (by simp) ?_; rintro v26 w2 hR2
  obtain ⟨g, rb, ra, ns, gr, rs, av, ev_, L, T, rfl, hA⟩ := hR2
  have hz2 := hA.ext.size
  have hE := hE.thenExt hA.ext
  have hB4 := hB4.ext hA.ext
  obtain ⟨Tad, Te⟩ := T
  obtain rfl : Fw.els ns = Te := hA.fe
  have hT2 : FtAt w2 g rb ra Tad ns := hA.ft
  have hok := hA.ok
  have hG : Fu.Good (Fw.els ns) := hok.good
  have hel : (Fw.els ns).length = ns.length := List.length_map _
  have hn5 : ns.length ≤ 400001 := by rw [← hel]; exact hok.few
  have htl : (textE (Fw.els ns)).length = liveN ns := by
    have h1 : (seenE (Fw.els ns)).length = liveN ns := hG.seen_length
    rw [← h1]; simp [textE]
  have hlv : liveN ns ≤ 400001 := by
    have h1 := List.countP_le_length (p := fun x : El => !x.gone) (l := Fw.els ns)
    rw [hel] at h1; exact Nat.le_trans h1 hn5
  have hbs := bs_size b
  refine WL.val (Y.move rfl) (by decide) ?_
  refine WL.val (Y.extract rfl rfl) (by decide) ?_
  refine WL.val (Y.extract rfl rfl) (by decide) ?_
  refine WL.val (Y.extract rfl rfl) (by decide) ?_
  refine WL.val (Y.assign rfl) (by decide) ?_
  refine WL.val (Y.assign rfl) (by decide) ?_
  refine WL.val (Y.assign rfl) (by decide) ?_
  refine WL.nil ?_
  refine hK2 _ _ ?_; try clear hK2 K2
  refine CW.seq fun K3 hK3 => ?_
  refine CW.seq fun K4 hK4 => ?_
  refine CW.region ?_
  refine WL.val (Y.move rfl) (by decide) ?_
  refine WL.val (Y.not rfl) (by decide) ?_
  refine WL.nil ?_
  refine hK4 _ _ ?_; try clear hK4 K4
  first | refine CW.condD rfl (fun ht5 => ?_) (fun ht5 => ?_) | refine CW.condND rfl (fun ht5 => ?_) (fun ht5 => ?_) | refine CW.condN rfl (fun ht5 => ?_) (fun ht5 => ?_) | refine CW.cond rfl (fun ht5 => ?_) (fun ht5 => ?_)
  · -- then
    refine CW.seq fun K6 hK6 => ?_
    refine CW.region ?_
    refine WL.val (Y.assign rfl) (by decide) ?_
    refine WL.nil ?_
    refine hK6 _ _ ?_; try clear hK6 K6
    refine CW.ret ⟨_, rfl, ?_⟩
    first | exact absurd rfl (by assumption) | (simp_all; done)
  refine CW.skip ?_
  refine hK3 _ _ ?_; try clear hK3 K3
  refine CW.seq fun K7 hK7 => ?_
  refine CW.region ?_
  refine WL.val (Y.move rfl) (by decide) ?_
  refine WL.call Try.func22 rfl rfl rfl (fcopy_any g rb ra Tad ns _ hT2 hG hn5) (by simp) ?_; rintro v33 w3 hR3
  obtain ⟨gu, rbu, rau, nsu, rfl, hU3, heu, hfu, hx3⟩ := hR3
  have hz3 := hx3.size
  have hE := hE.thenExt hx3
  have hB4 := hB4.ext hx3
  refine WL.val (Y.assign rfl) (by decide) ?_
  refine WL.nil ?_
  refine hK7 _ _ ?_; try clear hK7 K7
  refine CW.seq fun K8 hK8 => ?_
  refine CW.region ?_
  refine WL.val (Y.move rfl) (by decide) ?_
  refine WL.val (Y.move rfl) (by decide) ?_
  refine WL.call Try.func11 rfl rfl rfl (fops_any g rb ra _ ns b _ (hT2.ext hx3) hG hn5 hb) (by simp) ?_; rintro v37 w4 hR4
  obtain ⟨u4, rfl, hO4, hf4, hx4⟩ := hR4
  have hz4 := hx4.size
  have hE := hE.thenExt hx4
  have hB4 := hB4.ext hx4
  refine WL.val (Y.move rfl) (by decide) ?_
  refine WL.val (Y.extract rfl rfl) (by decide) ?_
  refine WL.val (Y.extract rfl rfl) (by decide) ?_
  refine WL.val (Y.assign rfl) (by decide) ?_
  refine WL.val (Y.assign rfl) (by decide) ?_
  refine WL.nil ?_
  refine hK8 _ _ ?_; try clear hK8 K8
  refine CW.seq fun K9 hK9 => ?_
  refine CW.region ?_
  refine WL.val (Y.move rfl) (by decide) ?_
  refine WL.call Try.func14 rfl rfl rfl (ftext_any g rb ra _ ns _ ((hT2.ext hx3).ext hx4) hG hn5) (by simp) ?_; rintro v w5 ⟨rfl, hx5⟩; have hz5 := hx5.size; have hE := hE.thenExt hx5; have hB4 := hB4.ext hx5
  refine WL.val (Y.move rfl) (by decide) ?_
  refine WL.call Try.func23 rfl rfl rfl (fmake_any (textE (Fw.els ns)) b _ (by omega) hb) (by simp) ?_; rintro v44 w6 hR6
  obtain ⟨lv, rfl, hOl, hfl, hx6⟩ := hR6
  have hz6 := hx6.size
  have hE := hE.thenExt hx6
  have hB4 := hB4.ext hx6
  have hT6 := (((hT2.ext hx3).ext hx4).ext hx5).ext hx6
  have hU6 := ((hU3.ext hx4).ext hx5).ext hx6
  have hO4 := (hO4.ext hx5).ext hx6
  have hO4lt := hO4.lt
  have hOllt := hOl.lt
  have hTlt := fun q (hq : Fp g rb ra ns q) => hT2.lt hq
  have hUlt := fun q (hq : Fp gu rbu rau nsu q) => hU3.lt hq
  refine WL.val (Y.move rfl) (by decide) ?_
  refine WL.val (Y.extract rfl rfl) (by decide) ?_
  refine WL.val (Y.extract rfl rfl) (by decide) ?_
  refine WL.val (Y.assign rfl) (by decide) ?_
  refine WL.val (Y.assign rfl) (by decide) ?_
  refine WL.nil ?_
  refine hK9 _ _ ?_; try clear hK9 K9
  refine CW.seq fun K10 hK10 => ?_
  refine CW.seq_test 53 (False) ?_ ?_
  · refine CW.region ?_
    refine WL.val (Y.move rfl) (by decide) ?_
    refine WL.val (Y.eql_fugueTree rfl rfl) (by decide) ?_
    refine WL.val (Y.move rfl) (by decide) ?_
    first | refine WL.casesD (d := 49) rfl (fun hg49 => ?_) (fun hg49 => ?_) | refine WL.casesND (d := 49) rfl (fun hg49 => ?_) (fun hg49 => ?_) | refine WL.cases (d := 49) rfl (fun hg49 => ?_) (fun hg49 => ?_)
    · -- t49 = T
      refine WL.goff rfl rfl (by decide) ?_
      refine WL.goff rfl rfl (by decide) ?_
      refine WL.goff rfl rfl (by decide) ?_
      refine WL.val (Y.pick rfl rfl) (by decide) ?_
      refine WL.nil ⟨⟨_, rfl, ?_⟩, rfl, (by repeat (first | exact Fr.le.refl | refine Fr.le.push rfl ?_))⟩
      first | (simp only [*, Int.natCast_inj, Bool.not_eq_true', decide_eq_false_iff_not, decide_eq_true_eq, not_true_eq_false, not_false_eq_true, true_and, false_and, and_true, and_false, false_or, or_false, true_or, or_true, iff_true, true_iff, iff_false, false_iff]; done) | (simp_all; done) | (refine congrArg Value.bool (Bool.eq_iff_iff.2 ?_); simp_all; done) | (simp_all; omega)
    · -- t49 = F
      refine WL.gval rfl rfl (Y.move rfl) (by decide) ?_
      refine WL.gval rfl rfl (Y.move rfl) (by decide) ?_
      refine WL.gval rfl rfl (Y.neq rfl rfl) (by decide) ?_
      refine WL.val (Y.pick rfl rfl) (by decide) ?_
      refine WL.nil ⟨⟨_, rfl, ?_⟩, rfl, (by repeat (first | exact Fr.le.refl | refine Fr.le.push rfl ?_))⟩
      first | (simp only [*, Int.natCast_inj, Bool.not_eq_true', decide_eq_false_iff_not, decide_eq_true_eq, not_true_eq_false, not_false_eq_true, true_and, false_and, and_true, and_false, false_or, or_false, true_or, or_true, iff_true, true_iff, iff_false, false_iff]; done) | (simp_all; done) | (refine congrArg Value.bool (Bool.eq_iff_iff.2 ?_); simp_all; done) | (simp_all; omega)
  first | refine CW.condD rfl (fun ht11 => ?_) (fun ht11 => ?_) | refine CW.condND rfl (fun ht11 => ?_) (fun ht11 => ?_) | refine CW.condN rfl (fun ht11 => ?_) (fun ht11 => ?_) | refine CW.cond rfl (fun ht11 => ?_) (fun ht11 => ?_)
  · -- then
    refine CW.seq fun K12 hK12 => ?_
    refine CW.region ?_
    refine WL.val (Y.assign rfl) (by decide) ?_
    refine WL.nil ?_
    refine hK12 _ _ ?_; try clear hK12 K12
    refine CW.ret ⟨_, rfl, ?_⟩
    exact False.elim (by assumption)
  refine CW.skip ?_
  refine hK10 _ _ ?_; try clear hK10 K10
  refine CW.seq fun K13 hK13 => ?_
  refine CW.seq_to (X := Bool × List Nn) (fun y => [(4, .pointer (some ⟨g4, 0, none⟩)), (7, .pointer (some ⟨g, 0, none⟩)), (10, .pointer (some ⟨gu, 0, none⟩)), (13, lv), (62, .bool y.1)]) (fun y w0 => Ext w w0 ∧ (y.1 = false → mkErr (textE (Fw.els ns)) b = 0 ∧ wrongC ⟨Tad, Fw.els ns⟩ id (opsE (Fw.els ns) b) = 0 ∧ FtAt w0 g rb ra Tad ns ∧ FtAt w0 gu rbu rau (addT ⟨Tad, Fw.els ns⟩ id (opsE (Fw.els ns) b)).ad y.2 ∧ Fw.els y.2 = (addT ⟨Tad, Fw.els ns⟩ id (opsE (Fw.els ns) b)).e ∧ Own w0 TE 3 lv (edL (mkE (textE (Fw.els ns)) b)) ∧ Blk w0 g4 50 (digC id))) ?_ ?_
  · refine CW.region ?_
    refine WL.val (Y.move rfl) (by decide) ?_
    refine WL.val (Y.neq rfl rfl) (by decide) ?_
    refine WL.val (Y.move rfl) (by decide) ?_
    first | refine WL.casesD (d := 56) rfl (fun hg56 => ?_) (fun hg56 => ?_) | refine WL.casesND (d := 56) rfl (fun hg56 => ?_) (fun hg56 => ?_) | refine WL.cases (d := 56) rfl (fun hg56 => ?_) (fun hg56 => ?_)
    · -- t56 = T
      refine WL.goff rfl rfl (by decide) ?_
      refine WL.goff rfl rfl (by decide) ?_
      refine WL.goff rfl rfl (by decide) ?_
      refine WL.goff rfl rfl (by decide) ?_
      refine WL.goff rfl rfl (by decide) ?_
      refine WL.val (Y.pick rfl rfl) (by decide) ?_
      refine WL.nil ?_
      first | exact ⟨(decide (wrongC ⟨Tad, Fw.els ns⟩ id (opsE (Fw.els ns) b) ≠ 0), nsv), (by repeat (first | exact Fr.le.nil | refine Fr.le.cons rfl ?_)), hE, fun h => ⟨hok0, by simpa using h, hT7, hU7, heu7, hl7, hB4⟩⟩ | exact ⟨(true, ns), (by repeat (first | exact Fr.le.nil | refine Fr.le.cons rfl ?_)), hE, fun h => by cases h⟩
    · -- t56 = F
      have hok0 : mkErr (textE (Fw.els ns)) b = 0 := by
        have h9 : ((mkErr (textE (Fw.els ns)) b : Nat) : Int) = 0 := by first | assumption | exact Decidable.not_not.1 (by assumption)
        omega
      rw [opsR, if_pos hok0] at hO4
      refine WL.gval rfl rfl (Y.move rfl) (by decide) ?_
      refine WL.gval rfl rfl (Y.load Try.underlying50 rfl hB4.mem (sz_apiDigest _) rfl) (by decide) ?_
      refine WL.gval rfl rfl (Y.move rfl) (by decide) ?_
      refine WL.gcall rfl rfl Try.func21 rfl rfl rfl (fadd_any gu rbu rau Tad nsu id _ (opsE (Fw.els ns) b) L _ hU6 (by rw [heu]; exact hok) (hO4.sl opC_length (by decide)) (fun _ k hk => ⟨hO4lt k hk, fun h => by have h1 := hUlt k h; have h2 := hf4 k hk; omega⟩)) (by decide) ?_; rintro v60 w7 hR7
      obtain ⟨rfl, nsv, hU7, heu7, hc7, hf7, _⟩ := hR7
      rw [heu] at hU7 heu7 ⊢
      have hz7 := hc7.size
      have hE := hE.step hc7 (fun q hq => by have := hfu q hq; omega)
      have hB4 := hB4.chg hc7 (fun hq => by have := hfu _ hq; omega)
      have hT7 := hT6.chg hc7 (fun q hq h => by have h1 := hTlt q hq; have h2 := hfu q h; omega)
      have hl7 := hOl.chg hc7 (fun q hq h => by have h1 := hfl q hq; have h2 := hUlt q h; omega)
      refine WL.gval rfl rfl (Y.neq rfl rfl) (by decide) ?_
      refine WL.val (Y.pick rfl rfl) (by decide) ?_
      refine WL.nil ?_
      first | exact ⟨(decide (wrongC ⟨Tad, Fw.els ns⟩ id (opsE (Fw.els ns) b) ≠ 0), nsv), (by repeat (first | exact Fr.le.nil | refine Fr.le.cons rfl ?_)), hE, fun h => ⟨hok0, by simpa using h, hT7, hU7, heu7, hl7, hB4⟩⟩ | exact ⟨(true, ns), (by repeat (first | exact Fr.le.nil | refine Fr.le.cons rfl ?_)), hE, fun h => by cases h⟩
  rintro ⟨y1, y2⟩ w8 ⟨hE, hj8⟩
  have hz8 := hE.size
  dsimp only at hj8 ⊢
  first | refine CW.condD rfl (fun ht14 => ?_) (fun ht14 => ?_) | refine CW.condND rfl (fun ht14 => ?_) (fun ht14 => ?_) | refine CW.condN rfl (fun ht14 => ?_) (fun ht14 => ?_) | refine CW.cond rfl (fun ht14 => ?_) (fun ht14 => ?_)
  · -- then
    refine CW.seq fun K15 hK15 => ?_
    refine CW.region ?_
    refine WL.call Try.func16 rfl rfl rfl (ealive_any _) (by simp) ?_; rintro v w9 ⟨rfl, hx9⟩; have hz9 := hx9.size; have hE := hE.thenExt hx9
    refine WL.val (Y.assign rfl) (by decide) ?_
    refine WL.nil ?_
    refine hK15 _ _ ?_; try clear hK15 K15
    refine CW.ret ⟨_, rfl, ?_⟩
    exact ⟨rfl, hE⟩
  refine CW.skip ?_
  refine hK13 _ _ ?_; try clear hK13 K13
  obtain ⟨hok0, hw0, hT8, hU8, heu8, hl8, hB4⟩ := hj8 (by assumption)
  obtain ⟨hmk, hl1, hl2⟩ := mkE_ok hok0
  rw [hmk] at hl8
  obtain ⟨lA, lm, lc, rfl⟩ := hl8.lens
  have hlm := (hl8.len edC_length (by decide)).1
  have hll : lm ≤ 2000 := by have := script_length (textE (Fw.els ns)) b; omega
  obtain ⟨L8, hok8, _⟩ := hok.addT id (opsE (Fw.els ns) b)
  have hG8 : Fu.Good (Fw.els y2) := by rw [heu8]; exact hok8.good
  have hel8 : (Fw.els y2).length = y2.length := List.length_map _
  have hn8 : y2.length ≤ 400001 := by rw [← hel8, heu8]; exact hok8.few
  have hE8 := hE
  refine CW.seq fun K16 hK16 => ?_
  refine CW.region ?_
  refine WL.val (Y.assign rfl) (by decide) ?_
  refine WL.val (Y.assign rfl) (by decide) ?_
  refine WL.nil ?_
  refine hK16 _ _ ?_; try clear hK16 K16
  refine CW.seq fun K17 hK17 => ?_
  refine CW.seq fun K18 hK18 => ?_
  refine CW.region ?_
  refine WL.val (Y.move rfl) (by decide) ?_
  refine WL.val (Y.len_slice Try.underlying55 rfl) (by decide) ?_
  refine WL.val (Y.move rfl) (by decide) ?_
  refine WL.nil ?_
  refine hK18 _ _ ?_; try clear hK18 K18
  refine CW.block ?_
  refine CW.loop (X := Nat) (fun x => [(7, .pointer (some ⟨g, 0, none⟩)), (10, .pointer (some ⟨gu, 0, none⟩)), (15, .int .i64 (overE ((scriptE (textE (Fw.els ns)) b).take x) : Int)), (16, .int .i64 (madeE ((scriptE (textE (Fw.els ns)) b).take x) : Int)), (64, .slice lA lm lc), (65, .int .i64 (lm : Int)), (66, .int .i64 (x : Int))]) (fun x w0 => x ≤ lm ∧ Ext w8 w0 ∧ Blk w0 g4 50 (digC id)) (fun x => lm - x) 0 (by repeat (first | exact Fr.le.nil | refine Fr.le.cons rfl ?_)) ⟨Nat.zero_le _, Chg.refl, hB4⟩ ?_
  intro x w10 hl10
  obtain ⟨i, hix⟩ : ∃ i, i = x := ⟨_, rfl⟩
  subst hix
  obtain ⟨hi, hL, hB4⟩ := hl10
  have hzL := hL.size
  have hE := hE8.thenExt hL
  refine CW.seq fun K19 hK19 => ?_
  refine CW.region ?_
  refine WL.val (Y.lss rfl rfl) (by decide) ?_
  refine WL.nil ?_
  refine hK19 _ _ ?_; try clear hK19 K19
  refine CW.seq fun K20 hK20 => ?_
  first | refine CW.condD rfl (fun ht21 => ?_) (fun ht21 => ?_) | refine CW.condND rfl (fun ht21 => ?_) (fun ht21 => ?_) | refine CW.condN rfl (fun ht21 => ?_) (fun ht21 => ?_) | refine CW.cond rfl (fun ht21 => ?_) (fun ht21 => ?_)
  · -- then
    refine CW.skip ?_
    refine hK20 _ _ ?_; try clear hK20 K20
    obtain ⟨ed, hed⟩ : ∃ ed, (scriptE (textE (Fw.els ns)) b)[i]? = some ed := ⟨_, List.getElem?_eq_getElem (by omega)⟩
    obtain ⟨la, hla, hme⟩ := ((hl8.ext hL).sl edC_length (by decide)).get hed
    subst hla
    have hmay := script_may _ _ ed (List.mem_of_getElem? hed)
    have hos : overE ((scriptE (textE (Fw.els ns)) b).take (i + 1)) = overE ((scriptE (textE (Fw.els ns)) b).take i) + ed.over := by rw [Go.Pl.take_succ hed, overE_app]; simp [overE]
    have hks : madeE ((scriptE (textE (Fw.els ns)) b).take (i + 1)) = madeE ((scriptE (textE (Fw.els ns)) b).take i) + ed.made := by rw [Go.Pl.take_succ hed, madeE_app]; simp [madeE]
    have hov : ed.over = if ed.kind = 3 then 0 else ed.n := rfl
    have hmd : ed.made = if ed.kind = 1 then ed.n else if ed.kind = 3 then ed.text.length else 0 := rfl
    have hbt := bs_size ed.text
    have hob := opsAt_over hed
    rw [(opsAt_inv _ _ _).at_] at hob
    have hsl : (seenE (Fw.els ns)).length = liveN ns := hG.seen_length
    have hcb := opsAt_cost hed
    have hmb : madeE ((scriptE (textE (Fw.els ns)) b).take (i + 1)) ≤ b.length := made_le hok hw0 (i + 1)
    have hov9 := over_or ed
    have hmd9 := made_or ed
    refine CW.seq_to (X := Unit) (fun _ => [(7, .pointer (some ⟨g, 0, none⟩)), (10, .pointer (some ⟨gu, 0, none⟩)), (15, .int .i64 (overE ((scriptE (textE (Fw.els ns)) b).take (i + 1)) : Int)), (16, .int .i64 (madeE ((scriptE (textE (Fw.els ns)) b).take (i + 1)) : Int)), (64, .slice (some la) lm lc), (65, .int .i64 (lm : Int)), (66, .int .i64 (i : Int))]) (fun _ w0 => Ext w8 w0 ∧ Blk w0 g4 50 (digC id)) ?_ ?_
    · skip
      refine CW.block ?_
      refine CW.seq fun K23 hK23 => ?_
      refine CW.region ?_
      refine WL.val (Y.indexAddrN Try.underlying55 rfl rfl sz0_apiEdit (by omega)) (by decide) ?_
      refine WL.val (Y.load Try.underlying59 rfl hme (sz_apiEdit _) rfl) (by decide) ?_
      refine as_apiEdit rfl (by simp) (by decide) fun g18 w11 hx11 hg18 hB18 => ?_
      have hlt18 := hB18.lt; have hz11 := hx11.size
      have hM18 := hB18.mem; have hz11 := hx11.size; have hE := hE.thenExt hx11; have hB4 := hB4.ext hx11
      refine WL.nil ?_
      refine hK23 _ _ ?_; try clear hK23 K23
      refine CW.seq fun K24 hK24 => ?_
      refine CW.seq fun K25 hK25 => ?_
      refine CW.region ?_
      refine WL.val (Y.fieldAddr fo_apiEdit0 rfl) (by decide) ?_
      refine WL.val (Y.load1 Try.underlying3 rfl hB18.mem.apiEdit0 rfl) (by decide) ?_
      refine WL.val (Y.eql rfl rfl) (by decide) ?_
      refine WL.nil ?_
      refine hK25 _ _ ?_; try clear hK25 K25
      first | refine CW.condD rfl (fun ht26 => ?_) (fun ht26 => ?_) | refine CW.condND rfl (fun ht26 => ?_) (fun ht26 => ?_) | refine CW.condN rfl (fun ht26 => ?_) (fun ht26 => ?_) | refine CW.cond rfl (fun ht26 => ?_) (fun ht26 => ?_)
      · -- then
        refine CW.seq fun K27 hK27 => ?_
        refine CW.region ?_
        refine WL.val (Y.move rfl) (by decide) ?_
        refine WL.val (Y.fieldAddr fo_apiEdit2 rfl) (by decide) ?_
        refine WL.val (Y.load1 Try.underlying9 rfl hB18.mem.apiEdit2 rfl) (by decide) ?_
        refine WL.val (Y.len_string Try.underlying9 rfl) (by decide) ?_
        refine WL.val (Y.add rfl rfl ⟨by omega, by omega⟩) (by decide) ?_
        refine WL.val (Y.assign rfl) (by decide) ?_
        refine WL.nil ?_
        refine hK27 _ _ ?_; try clear hK27 K27
        refine CW.exit ?_
        have hov3 : ed.over = 0 := by rw [hov, if_pos (by omega)]
        have hmd3 : ed.made = ed.text.length := by rw [hmd, if_neg (by omega), if_pos (by omega)]
        exact ⟨(), (by repeat (first | exact Fr.le.nil | refine Fr.le.cons rfl ?_ | refine Fr.le.cons (by show some (Value.int .i64 _) = some (Value.int .i64 _); congr 2; omega) ?_)), hL.thenExt hx11, hB4⟩
   
      refine CW.skip ?_
      refine hK24 _ _ ?_; try clear hK24 K24
      refine CW.seq fun K28 hK28 => ?_
      refine CW.seq fun K29 hK29 => ?_
      refine CW.region ?_
      refine WL.val (Y.assign rfl) (by decide) ?_
      refine WL.nil ?_
      refine hK29 _ _ ?_; try clear hK29 K29
      refine CW.block ?_
      refine CW.loop (X := Nat) (fun x => [(7, .pointer (some ⟨g, 0, none⟩)), (10, .pointer (some ⟨gu, 0, none⟩)), (15, .int .i64 (overE ((scriptE (textE (Fw.els ns)) b).take i) : Int)), (16, .int .i64 (madeE ((scriptE (textE (Fw.els ns)) b).take i) : Int)), (64, .slice (some la) lm lc), (65, .int .i64 (lm : Int)), (66, .int .i64 (i : Int)), (18, .pointer (some ⟨g18, 0, none⟩)), (19, .int .i64 (x : Int))]) (fun x w0 => x ≤ ed.n ∧ Ext w11 w0 ∧ Blk w0 g4 50 (digC id) ∧ Blk w0 g18 TE (edC ed)) (fun x => ed.n - x) 0 (by repeat (first | exact Fr.le.nil | refine Fr.le.cons rfl ?_)) ⟨Nat.zero_le _, Chg.refl, hB4, hB18⟩ ?_
      intro x w12 hl12
      obtain ⟨k, hkx⟩ : ∃ k, k = x := ⟨_, rfl⟩
      subst hkx
      obtain ⟨hk, hL12, hB4, hB18⟩ := hl12
      have hE11 := hE
      have hE := hE.thenExt hL12
      refine CW.seq fun K30 hK30 => ?_
      refine CW.seq_test 86 ((k : Int) < (ed.n : Int) ∧ (ed.kind : Int) = 1) ?_ ?_
      · refine CW.region ?_
        refine WL.val (Y.move rfl) (by decide) ?_
        refine WL.val (Y.fieldAddr fo_apiEdit1 rfl) (by decide) ?_
        refine WL.val (Y.load1 Try.underlying3 rfl hB18.mem.apiEdit1 rfl) (by decide) ?_
        refine WL.val (Y.lss rfl rfl) (by decide) ?_
        refine WL.val (Y.move rfl) (by decide) ?_
        first | refine WL.casesD (d := 82) rfl (fun hg82 => ?_) (fun hg82 => ?_) | refine WL.casesND (d := 82) rfl (fun hg82 => ?_) (fun hg82 => ?_) | refine WL.cases (d := 82) rfl (fun hg82 => ?_) (fun hg82 => ?_)
        · -- t82 = T
          refine WL.gval rfl rfl (Y.fieldAddr fo_apiEdit0 rfl) (by decide) ?_
          refine WL.gval rfl rfl (Y.load1 Try.underlying3 rfl hB18.mem.apiEdit0 rfl) (by decide) ?_
          refine WL.gval rfl rfl (Y.eql rfl rfl) (by decide) ?_
          refine WL.val (Y.pick rfl rfl) (by decide) ?_
          refine WL.nil ⟨⟨_, rfl, ?_⟩, rfl, (by repeat (first | exact Fr.le.refl | refine Fr.le.push rfl ?_))⟩
          first | (simp only [*, Int.natCast_inj, Bool.not_eq_true', decide_eq_false_iff_not, decide_eq_true_eq, not_true_eq_false, not_false_eq_true, true_and, false_and, and_true, and_false, false_or, or_false, true_or, or_true, iff_true, true_iff, iff_false, false_iff]; done) | (simp_all; done) | (refine congrArg Value.bool (Bool.eq_iff_iff.2 ?_); simp_all; done) | (simp_all; omega)
        · -- t82 = F
          refine WL.goff rfl rfl (by decide) ?_
          refine WL.goff rfl rfl (by decide) ?_
          refine WL.goff rfl rfl (by decide) ?_
          refine WL.val (Y.pick rfl rfl) (by decide) ?_
          refine WL.nil ⟨⟨_, rfl, ?_⟩, rfl, (by repeat (first | exact Fr.le.refl | refine Fr.le.push rfl ?_))⟩
          first | (simp only [*, Int.natCast_inj, Bool.not_eq_true', decide_eq_false_iff_not, decide_eq_true_eq, not_true_eq_false, not_false_eq_true, true_and, false_and, and_true, and_false, false_or, or_false, true_or, or_true, iff_true, true_iff, iff_false, false_iff]; done) | (simp_all; done) | (refine congrArg Value.bool (Bool.eq_iff_iff.2 ?_); simp_all; done) | (simp_all; omega)
      first | refine CW.condD rfl (fun ht31 => ?_) (fun ht31 => ?_) | refine CW.condND rfl (fun ht31 => ?_) (fun ht31 => ?_) | refine CW.condN rfl (fun ht31 => ?_) (fun ht31 => ?_) | refine CW.cond rfl (fun ht31 => ?_) (fun ht31 => ?_)
      · -- then
        refine CW.skip ?_
        refine hK30 _ _ ?_; try clear hK30 K30
        refine CW.seq fun K32 hK32 => ?_
        obtain ⟨hk9, hkk⟩ : (k : Int) < (ed.n : Int) ∧ (ed.kind : Int) = 1 := by assumption
        obtain ⟨q, hq1, hq2, hq3⟩ := keeps_at hok hw0 hed (by omega) (n := k) (by omega)
        have hr1 : refT (Fw.els ns) ((overE ((scriptE (textE (Fw.els ns)) b).take i) : Int) + (k : Int)) = (nm (Fw.els ns) q, true) := by rw [← Int.natCast_add]; exact refT_was hq1
        have hr2 : refT (Fw.els y2) ((madeE ((scriptE (textE (Fw.els ns)) b).take i) : Int) + (k : Int)) = (nm (Fw.els ns) q, true) := by
          rw [← Int.natCast_add, refT_was (by rw [heu8]; exact hq2), heu8, hq3]
        refine CW.block ?_
        refine CW.seq fun K33 hK33 => ?_
        refine CW.region ?_
        refine WL.val (Y.move rfl) (by decide) ?_
        refine WL.val (Y.move rfl) (by decide) ?_
        refine WL.val (Y.move rfl) (by decide) ?_
        refine WL.val (Y.add rfl rfl ⟨by omega, by omega⟩) (by decide) ?_
        refine WL.call Try.func24 rfl rfl rfl (fref_any g rb ra _ ns ((overE ((scriptE (textE (Fw.els ns)) b).take i) : Int) + (k : Int)) _ (hT8.ext ((hL.thenExt hx11).thenExt hL12)) hG hn5) (by simp) ?_; rintro v w13 ⟨rfl, hx13⟩; have hz13 := hx13.size; have hE := hE.thenExt hx13; have hB4 := hB4.ext hx13; have hB18 := hB18.ext hx13
        refine WL.val (Y.move rfl) (by decide) ?_
        rw [hr1]
        refine WL.val (Y.extract rfl rfl) (by decide) ?_
        refine WL.val (Y.extract rfl rfl) (by decide) ?_
        refine as_apiRef rfl (by simp) (by decide) fun g20 w14 hx14 hg20 hB20 => ?_
        have hlt20 := hB20.lt; have hz14 := hx14.size
        have hM20 := hB20.mem; have hz14 := hx14.size; have hE := hE.thenExt hx14; have hB4 := hB4.ext hx14; have hB18 := hB18.ext hx14
        refine WL.val (Y.assign rfl) (by decide) ?_
        refine WL.nil ?_
        refine hK33 _ _ ?_; try clear hK33 K33
        refine CW.seq fun K34 hK34 => ?_
        refine CW.region ?_
        refine WL.val (Y.move rfl) (by decide) ?_
        refine WL.val (Y.move rfl) (by decide) ?_
        refine WL.val (Y.move rfl) (by decide) ?_
        refine WL.val (Y.add rfl rfl ⟨by omega, by omega⟩) (by decide) ?_
        refine WL.call Try.func24 rfl rfl rfl (fref_any gu rbu rau _ y2 ((madeE ((scriptE (textE (Fw.els ns)) b).take i) : Int) + (k : Int)) _ (hU8.ext ((((hL.thenExt hx11).thenExt hL12).thenExt hx13).thenExt hx14)) hG8 hn8) (by simp) ?_; rintro v w15 ⟨rfl, hx15⟩; have hz15 := hx15.size; have hE := hE.thenExt hx15; have hB4 := hB4.ext hx15; have hB18 := hB18.ext hx15; have hB20 := hB20.ext hx15
        refine WL.val (Y.move rfl) (by decide) ?_
        rw [hr2]
        refine WL.val (Y.extract rfl rfl) (by decide) ?_
        refine WL.val (Y.extract rfl rfl) (by decide) ?_
        refine as_apiRef rfl (by simp) (by decide) fun g22 w16 hx16 hg22 hB22 => ?_
        have hlt22 := hB22.lt; have hz16 := hx16.size
        have hM22 := hB22.mem; have hz16 := hx16.size; have hE := hE.thenExt hx16; have hB4 := hB4.ext hx16; have hB18 := hB18.ext hx16; have hB20 := hB20.ext hx16
        refine WL.val (Y.assign rfl) (by decide) ?_
        refine WL.nil ?_
        refine hK34 _ _ ?_; try clear hK34 K34
        refine CW.seq_test 115 (False) ?_ ?_
        · refine CW.region ?_
          refine WL.val (Y.move rfl) (by decide) ?_
          refine WL.val (Y.not rfl) (by decide) ?_
          refine WL.val (Y.move rfl) (by decide) ?_
          first | refine WL.casesD (d := 107) rfl (fun hg107 => ?_) (fun hg107 => ?_) | refine WL.casesND (d := 107) rfl (fun hg107 => ?_) (fun hg107 => ?_) | refine WL.cases (d := 107) rfl (fun hg107 => ?_) (fun hg107 => ?_)
          · -- t107 = T
            refine WL.goff rfl rfl (by decide) ?_
            refine WL.goff rfl rfl (by decide) ?_
            refine WL.val (Y.pick rfl rfl) (by decide) ?_
            refine WL.val (Y.move rfl) (by decide) ?_
            refine WL.goff rfl rfl (by decide) ?_
            refine WL.goff rfl rfl (by decide) ?_
            refine WL.goff rfl rfl (by decide) ?_
            refine WL.val (Y.pick rfl rfl) (by decide) ?_
            refine WL.nil ⟨⟨_, rfl, ?_⟩, rfl, (by repeat (first | exact Fr.le.refl | refine Fr.le.push rfl ?_))⟩
            first | (simp only [*, Int.natCast_inj, Bool.not_eq_true', decide_eq_false_iff_not, decide_eq_true_eq, not_true_eq_false, not_false_eq_true, true_and, false_and, and_true, and_false, false_or, or_false, true_or, or_true, iff_true, true_iff, iff_false, false_iff]; done) | (simp_all; done) | (refine congrArg Value.bool (Bool.eq_iff_iff.2 ?_); simp_all; done) | (simp_all; omega)
          · -- t107 = F
            refine WL.gval rfl rfl (Y.move rfl) (by decide) ?_
            refine WL.gval rfl rfl (Y.not rfl) (by decide) ?_
            refine WL.val (Y.pick rfl rfl) (by decide) ?_
            refine WL.val (Y.move rfl) (by decide) ?_
            first | refine WL.casesD (d := 111) rfl (fun hg111 => ?_) (fun hg111 => ?_) | refine WL.casesND (d := 111) rfl (fun hg111 => ?_) (fun hg111 => ?_) | refine WL.cases (d := 111) rfl (fun hg111 => ?_) (fun hg111 => ?_)
            · -- t111 = T
              refine WL.goff rfl rfl (by decide) ?_
              refine WL.goff rfl rfl (by decide) ?_
              refine WL.goff rfl rfl (by decide) ?_
              refine WL.val (Y.pick rfl rfl) (by decide) ?_
              refine WL.nil ⟨⟨_, rfl, ?_⟩, rfl, (by repeat (first | exact Fr.le.refl | refine Fr.le.push rfl ?_))⟩
              first | (simp only [*, Int.natCast_inj, Bool.not_eq_true', decide_eq_false_iff_not, decide_eq_true_eq, not_true_eq_false, not_false_eq_true, true_and, false_and, and_true, and_false, false_or, or_false, true_or, or_true, iff_true, true_iff, iff_false, false_iff]; done) | (simp_all; done) | (refine congrArg Value.bool (Bool.eq_iff_iff.2 ?_); simp_all; done) | (simp_all; omega)
            · -- t111 = F
              refine WL.gval rfl rfl (Y.load Try.underlying61 rfl hB20.mem (sz_apiRef _) rfl) (by decide) ?_
              refine WL.gval rfl rfl (Y.load Try.underlying61 rfl hB22.mem (sz_apiRef _) rfl) (by decide) ?_
              refine WL.gval rfl rfl (Y.neq_apiRef rfl rfl) (by decide) ?_
              refine WL.val (Y.pick rfl rfl) (by decide) ?_
              refine WL.nil ⟨⟨_, rfl, ?_⟩, rfl, (by repeat (first | exact Fr.le.refl | refine Fr.le.push rfl ?_))⟩
              first | (simp only [*, Int.natCast_inj, Bool.not_eq_true', decide_eq_false_iff_not, decide_eq_true_eq, not_true_eq_false, not_false_eq_true, true_and, false_and, and_true, and_false, false_or, or_false, true_or, or_true, iff_true, true_iff, iff_false, false_iff]; done) | (simp_all; done) | (refine congrArg Value.bool (Bool.eq_iff_iff.2 ?_); simp_all; done) | (simp_all; omega)
        first | refine CW.condD rfl (fun ht35 => ?_) (fun ht35 => ?_) | refine CW.condND rfl (fun ht35 => ?_) (fun ht35 => ?_) | refine CW.condN rfl (fun ht35 => ?_) (fun ht35 => ?_) | refine CW.cond rfl (fun ht35 => ?_) (fun ht35 => ?_)
        · -- then
          refine CW.seq fun K36 hK36 => ?_
          refine CW.region ?_
          refine WL.val (Y.assign rfl) (by decide) ?_
          refine WL.nil ?_
          refine hK36 _ _ ?_; try clear hK36 K36
          refine CW.ret ⟨_, rfl, ?_⟩
          exact False.elim (by assumption)
     
        refine CW.skip ?_
        refine hK32 _ _ ?_; try clear hK32 K32
        refine CW.region ?_
        refine WL.val (Y.move rfl) (by decide) ?_
        refine WL.val (Y.add rfl rfl ⟨by omega, by omega⟩) (by decide) ?_
        refine WL.val (Y.assign rfl) (by decide) ?_
        refine WL.nil ?_
        exact ⟨k + 1, (by show ed.n - (k + 1) < ed.n - k; omega), (by repeat (first | exact Fr.le.nil | refine Fr.le.cons rfl ?_)), (by show k + 1 ≤ ed.n; omega), (((hL12.thenExt hx13).thenExt hx14).thenExt hx15).thenExt hx16, hB4, hB18⟩
   
      refine CW.exit ?_
      refine hK28 _ _ ?_; try clear hK28 K28
      refine CW.seq fun K37 hK37 => ?_
      refine CW.region ?_
      refine WL.val (Y.move rfl) (by decide) ?_
      refine WL.val (Y.fieldAddr fo_apiEdit1 rfl) (by decide) ?_
      refine WL.val (Y.load1 Try.underlying3 rfl hB18.mem.apiEdit1 rfl) (by decide) ?_
      refine WL.val (Y.add rfl rfl ⟨by omega, by omega⟩) (by decide) ?_
      refine WL.val (Y.assign rfl) (by decide) ?_
      refine WL.nil ?_
      refine hK37 _ _ ?_; try clear hK37 K37
      refine CW.seq fun K38 hK38 => ?_
      refine CW.region ?_
      refine WL.val (Y.fieldAddr fo_apiEdit0 rfl) (by decide) ?_
      refine WL.val (Y.load1 Try.underlying3 rfl hB18.mem.apiEdit0 rfl) (by decide) ?_
      refine WL.val (Y.eql rfl rfl) (by decide) ?_
      refine WL.nil ?_
      refine hK38 _ _ ?_; try clear hK38 K38
      first | refine CW.condD rfl (fun ht39 => ?_) (fun ht39 => ?_) | refine CW.condND rfl (fun ht39 => ?_) (fun ht39 => ?_) | refine CW.condN rfl (fun ht39 => ?_) (fun ht39 => ?_) | refine CW.cond rfl (fun ht39 => ?_) (fun ht39 => ?_)
      · -- then
        refine CW.region ?_
        refine WL.val (Y.move rfl) (by decide) ?_
        refine WL.val (Y.fieldAddr fo_apiEdit1 rfl) (by decide) ?_
        refine WL.val (Y.load1 Try.underlying3 rfl hB18.mem.apiEdit1 rfl) (by decide) ?_
        refine WL.val (Y.add rfl rfl ⟨by omega, by omega⟩) (by decide) ?_
        refine WL.val (Y.assign rfl) (by decide) ?_
        refine WL.nil ?_
        have hov3 : ed.over = ed.n := by rw [hov, if_neg (by omega)]
        have hmd3 : ed.made = ed.n := by rw [hmd, if_pos (by omega)]
        exact ⟨(), (by repeat (first | exact Fr.le.nil | refine Fr.le.cons rfl ?_ | refine Fr.le.cons (by show some (Value.int .i64 _) = some (Value.int .i64 _); congr 2; omega) ?_)), (hL.thenExt hx11).thenExt hL12, hB4⟩
   
      refine CW.skip ?_
      have hov3 : ed.over = ed.n := by rw [hov, if_neg (by omega)]
      have hmd3 : ed.made = 0 := by rw [hmd, if_neg (by omega), if_neg (by omega)]
      exact ⟨(), (by repeat (first | exact Fr.le.nil | refine Fr.le.cons rfl ?_ | refine Fr.le.cons (by show some (Value.int .i64 _) = some (Value.int .i64 _); congr 2; omega) ?_)), (hL.thenExt hx11).thenExt hL12, hB4⟩
    rintro u w17 hj17
    obtain ⟨hL17, hB4⟩ := hj17
    have hE := hE8.thenExt hL17
    refine CW.region ?_
    refine WL.val (Y.add rfl rfl ⟨by omega, by omega⟩) (by decide) ?_
    refine WL.val (Y.move rfl) (by decide) ?_
    refine WL.nil ?_
    exact ⟨i + 1, (by show lm - (i + 1) < lm - i; omega), (by repeat (first | exact Fr.le.nil | refine Fr.le.cons rfl ?_)), (by show i + 1 ≤ lm; omega), hL17, hB4⟩
  refine CW.exit ?_
  refine hK17 _ _ ?_; try clear hK17 K17
  refine CW.seq fun K40 hK40 => ?_
  refine CW.region ?_
  refine WL.call Try.func16 rfl rfl rfl (ealive_any _) (by simp) ?_; rintro v w18 ⟨rfl, hx18⟩; have hz18 := hx18.size; have hE := hE.thenExt hx18; have hB4 := hB4.ext hx18
  refine WL.val (Y.assign rfl) (by decide) ?_
  refine WL.nil ?_
  refine hK40 _ _ ?_; try clear hK40 K40
  refine CW.ret ⟨_, rfl, ?_⟩
  exact ⟨rfl, hE⟩
end Go.Proofs.Ytmndofgagngcgaa
