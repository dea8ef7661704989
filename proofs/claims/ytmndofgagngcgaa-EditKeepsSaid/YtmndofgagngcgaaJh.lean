/- diff.Make, recensionref04.Make, walked. No condition. -/
import Derived.Test.YtmndofgagngcgaaJg
import Derived.Test.YtmndofgagngcgaaG3
set_option linter.unusedSimpArgs false
set_option linter.unusedVariables false
namespace Go.Fw
open Go.RowKit Go.Fu
theorem bsG {l : List UInt8} {i : Nat} (h : i < (bs l).size) : (bs l)[i] = (l[i]?).getD 0 := by
  have h' : i < l.length := h
  rw [List.getElem?_eq_getElem h']; rfl
theorem bs_one {p : List UInt8} {j : Nat} (h : j < p.length) : (bs p).extract j (j + 1) = bs (Stp.put ((p[j]?).getD 0)).str := by
  apply ByteArray.ext
  rw [ByteArray.data_extract]
  show p.toArray.extract j (j + 1) = [(p[j]?).getD 0].toArray
  apply Array.ext'
  rw [Array.toList_extract, List.extract_eq_take_drop]
  rw [List.getElem?_eq_getElem h, show j + 1 - j = 1 by omega, List.drop_eq_getElem_cons h]
  rfl
theorem stepK {a b : List UInt8} {i j : Nat} (hi : i < a.length) (hj : j < b.length) (h : (a[i]?).getD 0 = (b[j]?).getD 0) : stp (a.drop i) (b.drop j) = .keep :: stp (a.drop (i + 1)) (b.drop (j + 1)) := by
  rw [List.getElem?_eq_getElem hi, List.getElem?_eq_getElem hj] at h
  rw [drop_cons hi, drop_cons hj, stp_cons]
  exact if_pos h
theorem stepC {a b : List UInt8} {i j : Nat} (hi : i < a.length) (h1 : ¬ (j < b.length ∧ (a[i]?).getD 0 = (b[j]?).getD 0)) (h2 : b.length ≤ j ∨ cst (a.drop (i + 1)) (b.drop j) ≤ cst (a.drop i) (b.drop (j + 1))) : stp (a.drop i) (b.drop j) = .cut :: stp (a.drop (i + 1)) (b.drop j) := by
  by_cases hj : j < b.length
  · have hne : ¬ a[i] = b[j] := fun e => h1 ⟨hj, by rw [List.getElem?_eq_getElem hi, List.getElem?_eq_getElem hj, e]⟩
    have hle : cst (a.drop (i + 1)) (b.drop j) ≤ cst (a.drop i) (b.drop (j + 1)) := by
      rcases h2 with h2 | h2
      · omega
      · exact h2
    rw [drop_cons hj, drop_cons hi] at hle
    rw [drop_cons hi, drop_cons hj, stp_cons, if_neg hne, if_pos hle]
  · rw [List.drop_of_length_le (l := b) (i := j) (by omega), drop_cons hi, stp_end]
theorem stepP {a b : List UInt8} {i j : Nat} (hj : j < b.length) (h1 : ¬ (i < a.length ∧ (a[i]?).getD 0 = (b[j]?).getD 0)) (h2 : ¬ (i < a.length ∧ cst (a.drop (i + 1)) (b.drop j) ≤ cst (a.drop i) (b.drop (j + 1)))) : stp (a.drop i) (b.drop j) = .put ((b[j]?).getD 0) :: stp (a.drop i) (b.drop (j + 1)) := by
  by_cases hi : i < a.length
  · have hne : ¬ a[i] = b[j] := fun e => h1 ⟨hi, by rw [List.getElem?_eq_getElem hi, List.getElem?_eq_getElem hj, e]⟩
    have hle : ¬ cst (a.drop (i + 1)) (b.drop j) ≤ cst (a.drop i) (b.drop (j + 1)) := fun h => h2 ⟨hi, h⟩
    rw [drop_cons hj, drop_cons hi] at hle
    rw [drop_cons hi, drop_cons hj, stp_cons, if_neg hne, if_neg hle, List.getElem?_eq_getElem hj]; rfl
  · rw [List.drop_of_length_le (l := a) (by omega), stp_nil, stp_nil, drop_cons hj, List.map_cons, List.getElem?_eq_getElem hj]; rfl
def mkErr (a b : List UInt8) : Nat := if 1000 < a.length ∨ 1000 < b.length then 3 else 0
def mkE (a b : List UInt8) : List EdD := if 1000 < a.length ∨ 1000 < b.length then [] else scriptE a b
/-- Where a round stands. -/
structure MkAt (a b : List UInt8) (i j : Nat) (l : List EdD) : Prop where
  hi : i ≤ a.length
  hj : j ≤ b.length
  rest : (stp (a.drop i) (b.drop j)).foldl addE l = scriptE a b
  bd : BdE l (i + j)
  len : l.length ≤ i + j
theorem MkAt.start (a b : List UInt8) : MkAt a b 0 0 [] := ⟨Nat.zero_le _, Nat.zero_le _, by simp [scriptE], (fun x h => by cases h), Nat.le_refl _⟩
theorem MkAt.keep {a b : List UInt8} {i j : Nat} {l : List EdD} (h : MkAt a b i j l) (hi : i < a.length) (hj : j < b.length) (he : (a[i]?).getD 0 = (b[j]?).getD 0) : MkAt a b (i + 1) (j + 1) (addE l .keep) :=
  ⟨hi, hj, by have := h.rest; rwa [stepK hi hj he, List.foldl_cons] at this, fun x hx => by have := h.bd.add .keep x hx; omega, by have h1 := addE_length l .keep; have h2 := (openE_length l (Stp.keep).kind).1; have := h.len; omega⟩
theorem MkAt.cut {a b : List UInt8} {i j : Nat} {l : List EdD} (h : MkAt a b i j l) (hi : i < a.length) (h1 : ¬ (j < b.length ∧ (a[i]?).getD 0 = (b[j]?).getD 0)) (h2 : b.length ≤ j ∨ cst (a.drop (i + 1)) (b.drop j) ≤ cst (a.drop i) (b.drop (j + 1))) : MkAt a b (i + 1) j (addE l .cut) :=
  ⟨hi, h.hj, by have := h.rest; rwa [stepC hi h1 h2, List.foldl_cons] at this, fun x hx => by have := h.bd.add .cut x hx; omega, by have h1 := addE_length l .cut; have h2 := (openE_length l (Stp.cut).kind).1; have := h.len; omega⟩
theorem MkAt.put {a b : List UInt8} {i j : Nat} {l : List EdD} (h : MkAt a b i j l) (hj : j < b.length) (h1 : ¬ (i < a.length ∧ (a[i]?).getD 0 = (b[j]?).getD 0)) (h2 : ¬ (i < a.length ∧ cst (a.drop (i + 1)) (b.drop j) ≤ cst (a.drop i) (b.drop (j + 1)))) : MkAt a b i (j + 1) (addE l (.put ((b[j]?).getD 0))) :=
  ⟨h.hi, hj, by have := h.rest; rwa [stepP hj h1 h2, List.foldl_cons] at this, fun x hx => by have := h.bd.add (.put ((b[j]?).getD 0)) x hx; omega, by have h1 := addE_length l (.put ((b[j]?).getD 0)); have h2 := (openE_length l (Stp.put ((b[j]?).getD 0)).kind).1; have := h.len; omega⟩
theorem MkAt.fin {a b : List UInt8} {l : List EdD} (h : MkAt a b a.length b.length l) : l = scriptE a b := by
  have := h.rest
  rw [List.drop_length, List.drop_length] at this
  exact this
end Go.Fw
namespace Go.Proofs.Ytmndofgagngcgaa
open Go.RowKit Go.Fw Go.Fu Go.Pl

set_option maxRecDepth 100000 in
set_option maxHeartbeats 4000000 in
theorem fmake_any (a b : List UInt8) (w : World) (ha : a.length < 4611686018427387904) (hb : b.length < 4611686018427387904) : Calls Try.prog 23 #[.string (bs a), .string (bs b)] w (Ret fun v w' => ∃ u, v = .tuple #[u, .int .i64 (mkErr a b : Int)] ∧ Own w' TE 3 u (edL (mkE a b)) ∧ (∀ q, u.ownBlock = some q → w.heap.size ≤ q) ∧ Ext w w') := by
  have hsa := bs_size a
  have hsb := bs_size b
  refine calls_of_CW 103 [4, 5] [(0, .string (bs a)), (1, .string (bs b))] Try.func23 rfl rfl rfl (by simp) args2 ?_
  have hE : Ext w w := Chg.refl
  refine CW.seq fun K1 hK1 => ?_
  refine CW.region ?_
  refine WL.val (Y.assign rfl) (by decide) ?_
  refine WL.val (Y.assign rfl) (by decide) ?_
  refine WL.nil ?_
  refine hK1 _ _ ?_; try clear hK1 K1
  refine CW.seq fun K2 hK2 => ?_
  refine CW.seq_test 18 ((1000 : Int) < ((bs a).size : Int) ∨ (1000 : Int) < ((bs b).size : Int)) ?_ ?_
  · refine CW.region ?_
    refine WL.val (Y.move rfl) (by decide) ?_
    refine WL.val (Y.len_string Try.underlying9 rfl) (by decide) ?_
    refine WL.val (Y.gtr rfl rfl) (by decide) ?_
    refine WL.val (Y.move rfl) (by decide) ?_
    first | refine WL.casesD (d := 14) rfl (fun hg14 => ?_) (fun hg14 => ?_) | refine WL.casesND (d := 14) rfl (fun hg14 => ?_) (fun hg14 => ?_) | refine WL.cases (d := 14) rfl (fun hg14 => ?_) (fun hg14 => ?_)
    · -- t14 = T
      refine WL.goff rfl rfl (by decide) ?_
      refine WL.goff rfl rfl (by decide) ?_
      refine WL.goff rfl rfl (by decide) ?_
      refine WL.val (Y.pick rfl rfl) (by decide) ?_
      refine WL.nil ⟨⟨_, rfl, ?_⟩, rfl, (by repeat (first | exact Fr.le.refl | refine Fr.le.push rfl ?_))⟩
      first | (simp only [*, Int.natCast_inj, Bool.not_eq_true', decide_eq_false_iff_not, decide_eq_true_eq, not_true_eq_false, not_false_eq_true, true_and, false_and, and_true, and_false, false_or, or_false, true_or, or_true, iff_true, true_iff, iff_false, false_iff]; done) | (simp_all; done) | (refine congrArg Value.bool (Bool.eq_iff_iff.2 ?_); simp_all; done) | (simp_all; omega)
    · -- t14 = F
      refine WL.gval rfl rfl (Y.move rfl) (by decide) ?_
      refine WL.gval rfl rfl (Y.len_string Try.underlying9 rfl) (by decide) ?_
      refine WL.gval rfl rfl (Y.gtr rfl rfl) (by decide) ?_
      refine WL.val (Y.pick rfl rfl) (by decide) ?_
      refine WL.nil ⟨⟨_, rfl, ?_⟩, rfl, (by repeat (first | exact Fr.le.refl | refine Fr.le.push rfl ?_))⟩
      first | (simp only [*, Int.natCast_inj, Bool.not_eq_true', decide_eq_false_iff_not, decide_eq_true_eq, not_true_eq_false, not_false_eq_true, true_and, false_and, and_true, and_false, false_or, or_false, true_or, or_true, iff_true, true_iff, iff_false, false_iff]; done) | (simp_all; done) | (refine congrArg Value.bool (Bool.eq_iff_iff.2 ?_); simp_all; done) | (simp_all; omega)
  first | refine CW.condD rfl (fun ht3 => ?_) (fun ht3 => ?_) | refine CW.condND rfl (fun ht3 => ?_) (fun ht3 => ?_) | refine CW.condN rfl (fun ht3 => ?_) (fun ht3 => ?_) | refine CW.cond rfl (fun ht3 => ?_) (fun ht3 => ?_)
  · -- then
    refine CW.seq fun K4 hK4 => ?_
    refine CW.region ?_
    refine WL.val (Y.assign rfl) (by decide) ?_
    refine WL.val (Y.assign rfl) (by decide) ?_
    refine WL.nil ?_
    refine hK4 _ _ ?_; try clear hK4 K4
    refine CW.ret ⟨_, rfl, ?_⟩
    have ht9 : (1000 : Int) < ((bs a).size : Int) ∨ (1000 : Int) < ((bs b).size : Int) := by assumption
    have hbig : 1000 < a.length ∨ 1000 < b.length := by omega
    exact ⟨.slice none 0 0, by rw [mkErr, if_pos hbig]; rfl, by rw [mkE, if_pos hbig]; exact Own.nil, (fun q h => by simp [Value.ownBlock] at h), hE⟩
  refine CW.skip ?_
  refine hK2 _ _ ?_; try clear hK2 K2
  refine CW.seq fun K5 hK5 => ?_
  refine CW.region ?_
  refine WL.val (Y.move rfl) (by decide) ?_
  refine WL.val (Y.move rfl) (by decide) ?_
  refine WL.call Try.func44 rfl rfl rfl (costs_any a b _ (by omega) (by omega)) (by simp) ?_; rintro v21 w1 hR1
  obtain ⟨hTab, hx1⟩ := hR1
  have hz1 := hx1.size
  have hE := hE.thenExt hx1
  obtain ⟨tA, tc, rfl, hrow⟩ := id hTab
  have hsm : ¬ (1000 < a.length ∨ 1000 < b.length) := by omega
  refine WL.val (Y.assign rfl) (by decide) ?_
  refine WL.nil ?_
  refine hK5 _ _ ?_; try clear hK5 K5
  refine CW.seq fun K6 hK6 => ?_
  refine CW.region ?_
  refine WL.alloc1 (z := .slice none 0 0) (by kernel_rfl) rfl (by decide) fun g7 w2 hx2 hg7 hB7 => ?_
  have hlt7 := hB7.lt; have hz2 := hx2.size
  have hM7 := hB7.mem; have hz2 := hx2.size; have hE := hE.thenExt hx2
  refine WL.nil ?_
  refine hK6 _ _ ?_; try clear hK6 K6
  refine CW.seq fun K7 hK7 => ?_
  refine CW.region ?_
  refine WL.val (Y.makeFunc rfl) (by decide) ?_
  refine WL.val (Y.assign rfl) (by decide) ?_
  refine WL.nil ?_
  refine hK7 _ _ ?_; try clear hK7 K7
  refine CW.seq fun K8 hK8 => ?_
  refine CW.region ?_
  refine WL.val (Y.assign rfl) (by decide) ?_
  refine WL.val (Y.assign rfl) (by decide) ?_
  refine WL.nil ?_
  refine hK8 _ _ ?_; try clear hK8 K8
  refine CW.seq fun K9 hK9 => ?_
  refine CW.block ?_
  refine CW.loop (X := Nat × Nat × List EdD × Value) (fun x => [(0, .string (bs a)), (1, .string (bs b)), (6, .slice (some tA) (a.length + 1) tc), (7, .pointer (some ⟨g7, 0, none⟩)), (8, .func (.func 45) #[] #[.pointer (some ⟨g7, 0, none⟩)]), (9, .int .i64 (x.1 : Int)), (10, .int .i64 (x.2.1 : Int))]) (fun x w0 => Blk w0 g7 TSE [x.2.2.2] ∧ MkAt a b x.1 x.2.1 x.2.2.1 ∧ Own w0 TE 3 x.2.2.2 (edL x.2.2.1) ∧ (∀ q, x.2.2.2.ownBlock = some q → w1.heap.size ≤ q) ∧ Chg (fun q => w1.heap.size ≤ q) w1 w0 ∧ Ext w w0) (fun x => (a.length - x.1) + (b.length - x.2.1)) (0, 0, [], .slice none 0 0) (by repeat (first | exact Fr.le.nil | refine Fr.le.cons rfl ?_)) ⟨hB7, MkAt.start a b, Own.nil, (fun q h => by simp [Value.ownBlock] at h), Ext.chg hx2, hE⟩ ?_
  intro x w3 hl3
  obtain ⟨i, j, l, u⟩ := x
  dsimp only at hl3 ⊢
  obtain ⟨hB7, hM, hO, hfu, hC, hE⟩ := hl3
  have hTab2 := hTab.far hC (fun k h => h)
  obtain ⟨tA2, tc2, hte, hrow2⟩ := id hTab2
  injection hte with hte _ _
  injection hte with hte
  subst hte
  have hmi := hM.hi
  have hmj := hM.hj
  have hml := hM.len
  have hzc := hC.size
  have hlt7 := hB7.lt
  refine CW.seq fun K10 hK10 => ?_
  refine CW.seq_test 32 ((i : Int) < ((bs a).size : Int) ∨ (j : Int) < ((bs b).size : Int)) ?_ ?_
  · refine CW.region ?_
    refine WL.val (Y.move rfl) (by decide) ?_
    refine WL.val (Y.move rfl) (by decide) ?_
    refine WL.val (Y.len_string Try.underlying9 rfl) (by decide) ?_
    refine WL.val (Y.lss rfl rfl) (by decide) ?_
    refine WL.val (Y.move rfl) (by decide) ?_
    first | refine WL.casesD (d := 27) rfl (fun hg27 => ?_) (fun hg27 => ?_) | refine WL.casesND (d := 27) rfl (fun hg27 => ?_) (fun hg27 => ?_) | refine WL.cases (d := 27) rfl (fun hg27 => ?_) (fun hg27 => ?_)
    · -- t27 = T
      refine WL.goff rfl rfl (by decide) ?_
      refine WL.goff rfl rfl (by decide) ?_
      refine WL.goff rfl rfl (by decide) ?_
      refine WL.goff rfl rfl (by decide) ?_
      refine WL.val (Y.pick rfl rfl) (by decide) ?_
      refine WL.nil ⟨⟨_, rfl, ?_⟩, rfl, (by repeat (first | exact Fr.le.refl | refine Fr.le.push rfl ?_))⟩
      first | (simp only [*, Int.natCast_inj, Bool.not_eq_true', decide_eq_false_iff_not, decide_eq_true_eq, not_true_eq_false, not_false_eq_true, true_and, false_and, and_true, and_false, false_or, or_false, true_or, or_true, iff_true, true_iff, iff_false, false_iff]; done) | (simp_all; done) | (refine congrArg Value.bool (Bool.eq_iff_iff.2 ?_); simp_all; done) | (simp_all; omega)
    · -- t27 = F
      refine WL.gval rfl rfl (Y.move rfl) (by decide) ?_
      refine WL.gval rfl rfl (Y.move rfl) (by decide) ?_
      refine WL.gval rfl rfl (Y.len_string Try.underlying9 rfl) (by decide) ?_
      refine WL.gval rfl rfl (Y.lss rfl rfl) (by decide) ?_
      refine WL.val (Y.pick rfl rfl) (by decide) ?_
      refine WL.nil ⟨⟨_, rfl, ?_⟩, rfl, (by repeat (first | exact Fr.le.refl | refine Fr.le.push rfl ?_))⟩
      first | (simp only [*, Int.natCast_inj, Bool.not_eq_true', decide_eq_false_iff_not, decide_eq_true_eq, not_true_eq_false, not_false_eq_true, true_and, false_and, and_true, and_false, false_or, or_false, true_or, or_true, iff_true, true_iff, iff_false, false_iff]; done) | (simp_all; done) | (refine congrArg Value.bool (Bool.eq_iff_iff.2 ?_); simp_all; done) | (simp_all; omega)
  first | refine CW.condD rfl (fun ht11 => ?_) (fun ht11 => ?_) | refine CW.condND rfl (fun ht11 => ?_) (fun ht11 => ?_) | refine CW.condN rfl (fun ht11 => ?_) (fun ht11 => ?_) | refine CW.cond rfl (fun ht11 => ?_) (fun ht11 => ?_)
  · -- then
    refine CW.skip ?_
    refine hK10 _ _ ?_; try clear hK10 K10
    refine CW.block ?_
    refine CW.block ?_
    refine CW.seq_testE 42 (((i : Int) < ((bs a).size : Int) ∧ (j : Int) < ((bs b).size : Int)) ∧ (((a[i]?).getD 0).toNat : Int) = (((b[j]?).getD 0).toNat : Int)) ?_ ?_
    · refine CW.quiet (fun wq => Ext w3 wq) (by kernel_rfl) (by kernel_rfl) Chg.drew ?_
      refine QL.val (fun wq hq => Y.move rfl) (by decide) ?_
      refine QL.val (fun wq hq => Y.move rfl) (by decide) ?_
      refine QL.val (fun wq hq => Y.len_string Try.underlying9 rfl) (by decide) ?_
      refine QL.val (fun wq hq => Y.lss rfl rfl) (by decide) ?_
      refine QL.val (fun wq hq => Y.move rfl) (by decide) ?_
      first | refine QL.casesD (d := 47) rfl (fun hg47 => ?_) (fun hg47 => ?_) | refine QL.casesND (d := 47) rfl (fun hg47 => ?_) (fun hg47 => ?_) | refine QL.cases (d := 47) rfl (fun hg47 => ?_) (fun hg47 => ?_)
      · -- t47 = T
        refine QL.gval rfl rfl (fun wq hq => Y.move rfl) (by decide) ?_
        refine QL.gval rfl rfl (fun wq hq => Y.move rfl) (by decide) ?_
        refine QL.gval rfl rfl (fun wq hq => Y.len_string Try.underlying9 rfl) (by decide) ?_
        refine QL.gval rfl rfl (fun wq hq => Y.lss rfl rfl) (by decide) ?_
        refine QL.val (fun wq hq => Y.pick rfl rfl) (by decide) ?_
        refine QL.val (fun wq hq => Y.move rfl) (by decide) ?_
        first | refine QL.casesD (d := 53) rfl (fun hg53 => ?_) (fun hg53 => ?_) | refine QL.casesND (d := 53) rfl (fun hg53 => ?_) (fun hg53 => ?_) | refine QL.cases (d := 53) rfl (fun hg53 => ?_) (fun hg53 => ?_)
        · -- t53 = T
          refine QL.gval rfl rfl (fun wq hq => Y.move rfl) (by decide) ?_
          refine QL.gval rfl rfl (fun wq hq => Y.move rfl) (by decide) ?_
          refine QL.gval rfl rfl (fun wq hq => Y.index_string (i := i) (s := bs a) Try.underlying9 rfl rfl (by omega)) (by decide) ?_
          rw [bsG]
          refine QL.gval rfl rfl (fun wq hq => Y.move rfl) (by decide) ?_
          refine QL.gval rfl rfl (fun wq hq => Y.move rfl) (by decide) ?_
          refine QL.gval rfl rfl (fun wq hq => Y.index_string (i := j) (s := bs b) Try.underlying9 rfl rfl (by omega)) (by decide) ?_
          rw [bsG]
          refine QL.gval rfl rfl (fun wq hq => Y.eql rfl rfl) (by decide) ?_
          refine QL.val (fun wq hq => Y.pick rfl rfl) (by decide) ?_
          refine QL.val (fun wq hq => Y.assign rfl) (by decide) ?_
          refine QL.nil fun wq hq => ⟨⟨_, rfl, ?_⟩, hq, (by repeat (first | exact Fr.le.refl | refine Fr.le.push rfl ?_))⟩
          first | (simp only [*, Int.natCast_inj, Bool.not_eq_true', decide_eq_false_iff_not, decide_eq_true_eq, not_true_eq_false, not_false_eq_true, true_and, false_and, and_true, and_false, false_or, or_false, true_or, or_true, iff_true, true_iff, iff_false, false_iff]; done) | (simp_all; done) | (refine congrArg Value.bool (Bool.eq_iff_iff.2 ?_); simp_all; done) | (simp_all; omega)
        · -- t53 = F
          refine QL.goff rfl rfl (by decide) ?_
          refine QL.goff rfl rfl (by decide) ?_
          refine QL.goff rfl rfl (by decide) ?_
          refine QL.goff rfl rfl (by decide) ?_
          refine QL.goff rfl rfl (by decide) ?_
          refine QL.goff rfl rfl (by decide) ?_
          refine QL.goff rfl rfl (by decide) ?_
          refine QL.val (fun wq hq => Y.pick rfl rfl) (by decide) ?_
          refine QL.val (fun wq hq => Y.assign rfl) (by decide) ?_
          refine QL.nil fun wq hq => ⟨⟨_, rfl, ?_⟩, hq, (by repeat (first | exact Fr.le.refl | refine Fr.le.push rfl ?_))⟩
          first | (simp only [*, Int.natCast_inj, Bool.not_eq_true', decide_eq_false_iff_not, decide_eq_true_eq, not_true_eq_false, not_false_eq_true, true_and, false_and, and_true, and_false, false_or, or_false, true_or, or_true, iff_true, true_iff, iff_false, false_iff]; done) | (simp_all; done) | (refine congrArg Value.bool (Bool.eq_iff_iff.2 ?_); simp_all; done) | (simp_all; omega)
      · -- t47 = F
        refine QL.goff rfl rfl (by decide) ?_
        refine QL.goff rfl rfl (by decide) ?_
        refine QL.goff rfl rfl (by decide) ?_
        refine QL.goff rfl rfl (by decide) ?_
        refine QL.val (fun wq hq => Y.pick rfl rfl) (by decide) ?_
        refine QL.val (fun wq hq => Y.move rfl) (by decide) ?_
        refine QL.goff rfl rfl (by decide) ?_
        refine QL.goff rfl rfl (by decide) ?_
        refine QL.goff rfl rfl (by decide) ?_
        refine QL.goff rfl rfl (by decide) ?_
        refine QL.goff rfl rfl (by decide) ?_
        refine QL.goff rfl rfl (by decide) ?_
        refine QL.goff rfl rfl (by decide) ?_
        refine QL.val (fun wq hq => Y.pick rfl rfl) (by decide) ?_
        refine QL.val (fun wq hq => Y.assign rfl) (by decide) ?_
        refine QL.nil fun wq hq => ⟨⟨_, rfl, ?_⟩, hq, (by repeat (first | exact Fr.le.refl | refine Fr.le.push rfl ?_))⟩
        first | (simp only [*, Int.natCast_inj, Bool.not_eq_true', decide_eq_false_iff_not, decide_eq_true_eq, not_true_eq_false, not_false_eq_true, true_and, false_and, and_true, and_false, false_or, or_false, true_or, or_true, iff_true, true_iff, iff_false, false_iff]; done) | (simp_all; done) | (refine congrArg Value.bool (Bool.eq_iff_iff.2 ?_); simp_all; done) | (simp_all; omega)
    intro w4 hx4; have hz4 := hx4.size; have hE := hE.thenExt hx4; have hB7 := hB7.ext hx4
    first | refine CW.condD rfl (fun ht12 => ?_) (fun ht12 => ?_) | refine CW.condND rfl (fun ht12 => ?_) (fun ht12 => ?_) | refine CW.condN rfl (fun ht12 => ?_) (fun ht12 => ?_) | refine CW.cond rfl (fun ht12 => ?_) (fun ht12 => ?_)
    · -- then
      refine CW.seq fun K13 hK13 => ?_
      refine CW.region ?_
      refine WL.val (Y.move rfl) (by decide) ?_
      refine WL.callV rfl Try.func45 rfl rfl rfl (fadd1_any g7 u l (i + j) .keep _ hB7 (hO.ext hx4) (by omega) hM.bd (by omega)) (by simp) ?_; rintro v63 w5 hR5
      obtain ⟨u2, hB7, hO2, hf2, hc5⟩ := hR5
      have hz5 := hc5.size
      have hfr2 : ∀ q, u2.ownBlock = some q → w1.heap.size ≤ q := fun q hq => by
        rcases hf2 q hq with h | h
        · exact hfu q h
        · omega
      have hCC : Chg (fun q => w1.heap.size ≤ q) w1 w5 := (hC.thenExt hx4).trans hc5 (fun q _ h => by rcases h with h | h; omega; exact hfu q h)
      have hE := hE.step hc5 (fun q h => by rcases h with h | h; omega; have := hfu q h; omega)
      refine WL.nil ?_
      refine hK13 _ _ ?_; try clear hK13 K13
      refine CW.seq fun K14 hK14 => ?_
      refine CW.region ?_
      refine WL.val (Y.move rfl) (by decide) ?_
      refine WL.val (Y.add rfl rfl ⟨by omega, by omega⟩) (by decide) ?_
      refine WL.val (Y.assign rfl) (by decide) ?_
      refine WL.nil ?_
      refine hK14 _ _ ?_; try clear hK14 K14
      refine CW.region ?_
      refine WL.val (Y.move rfl) (by decide) ?_
      refine WL.val (Y.add rfl rfl ⟨by omega, by omega⟩) (by decide) ?_
      refine WL.val (Y.assign rfl) (by decide) ?_
      refine WL.nil ?_
      have ht : ((i : Int) < ((bs a).size : Int) ∧ (j : Int) < ((bs b).size : Int)) ∧ (((a[i]?).getD 0).toNat : Int) = (((b[j]?).getD 0).toNat : Int) := by assumption
      exact ⟨(i + 1, j + 1, addE l .keep, u2), (by show (a.length - (i + 1)) + (b.length - (j + 1)) < (a.length - i) + (b.length - j); omega), (by repeat (first | exact Fr.le.nil | refine Fr.le.cons rfl ?_)), hB7, hM.keep (by omega) (by omega) (UInt8.toNat_inj.1 (by omega)), hO2, hfr2, hCC, hE⟩
 
    refine CW.seq_testE 68 ((i : Int) < ((bs a).size : Int) ∧ ((j : Int) = ((bs b).size : Int) ∨ (cst (a.drop (i + 1)) (b.drop j) : Int) ≤ (cst (a.drop i) (b.drop (j + 1)) : Int))) ?_ ?_
    · refine CW.quiet (fun wq => Ext w4 wq) (by kernel_rfl) (by kernel_rfl) Chg.drew ?_
      refine QL.val (fun wq hq => Y.move rfl) (by decide) ?_
      refine QL.val (fun wq hq => Y.move rfl) (by decide) ?_
      refine QL.val (fun wq hq => Y.len_string Try.underlying9 rfl) (by decide) ?_
      refine QL.val (fun wq hq => Y.lss rfl rfl) (by decide) ?_
      refine QL.val (fun wq hq => Y.move rfl) (by decide) ?_
      first | refine QL.casesD (d := 73) rfl (fun hg73 => ?_) (fun hg73 => ?_) | refine QL.casesND (d := 73) rfl (fun hg73 => ?_) (fun hg73 => ?_) | refine QL.cases (d := 73) rfl (fun hg73 => ?_) (fun hg73 => ?_)
      · -- t73 = T
        refine QL.gval rfl rfl (fun wq hq => Y.move rfl) (by decide) ?_
        refine QL.gval rfl rfl (fun wq hq => Y.move rfl) (by decide) ?_
        refine QL.gval rfl rfl (fun wq hq => Y.len_string Try.underlying9 rfl) (by decide) ?_
        refine QL.gval rfl rfl (fun wq hq => Y.eql rfl rfl) (by decide) ?_
        refine QL.gval rfl rfl (fun wq hq => Y.move rfl) (by decide) ?_
        first | refine QL.casesD (d := 78) rfl (fun hg78 => ?_) (fun hg78 => ?_) | refine QL.casesND (d := 78) rfl (fun hg78 => ?_) (fun hg78 => ?_) | refine QL.cases (d := 78) rfl (fun hg78 => ?_) (fun hg78 => ?_)
        · -- t78 = T
          refine QL.goff rfl rfl (by decide) ?_
          refine QL.goff rfl rfl (by decide) ?_
          refine QL.goff rfl rfl (by decide) ?_
          refine QL.goff rfl rfl (by decide) ?_
          refine QL.goff rfl rfl (by decide) ?_
          refine QL.goff rfl rfl (by decide) ?_
          refine QL.goff rfl rfl (by decide) ?_
          refine QL.goff rfl rfl (by decide) ?_
          refine QL.goff rfl rfl (by decide) ?_
          refine QL.goff rfl rfl (by decide) ?_
          refine QL.goff rfl rfl (by decide) ?_
          refine QL.goff rfl rfl (by decide) ?_
          refine QL.goff rfl rfl (by decide) ?_
          refine QL.goff rfl rfl (by decide) ?_
          refine QL.goff rfl rfl (by decide) ?_
          refine QL.goff rfl rfl (by decide) ?_
          refine QL.goff rfl rfl (by decide) ?_
          refine QL.gval rfl rfl (fun wq hq => Y.pick rfl rfl) (by decide) ?_
          refine QL.val (fun wq hq => Y.pick rfl rfl) (by decide) ?_
          refine QL.val (fun wq hq => Y.assign rfl) (by decide) ?_
          refine QL.nil fun wq hq => ⟨⟨_, rfl, ?_⟩, hq, (by repeat (first | exact Fr.le.refl | refine Fr.le.push rfl ?_))⟩
          first | (simp only [*, Int.natCast_inj, Bool.not_eq_true', decide_eq_false_iff_not, decide_eq_true_eq, not_true_eq_false, not_false_eq_true, true_and, false_and, and_true, and_false, false_or, or_false, true_or, or_true, iff_true, true_iff, iff_false, false_iff]; done) | (simp_all; done) | (refine congrArg Value.bool (Bool.eq_iff_iff.2 ?_); simp_all; done) | (simp_all; omega)
        · -- t78 = F
          obtain ⟨r1, k1, hm1, hc1⟩ := hrow2 (i + 1) (by omega)
          obtain ⟨r0, k0, hm0, hc0⟩ := hrow2 i (by omega)
          have hm1 := hm1.ext hx4
          have hm0 := hm0.ext hx4
          have hc1 := fun j h => (hc1 j h).ext hx4
          have hc0 := fun j h => (hc0 j h).ext hx4
          refine QL.gval rfl rfl (fun wq hq => Y.move rfl) (by decide) ?_
          refine QL.gval rfl rfl (fun wq hq => Y.move rfl) (by decide) ?_
          refine QL.gval rfl rfl (fun wq hq => Y.add rfl rfl ⟨by omega, by omega⟩) (by decide) ?_
          refine QL.gval rfl rfl (fun wq hq => Y.indexAddrN Try.underlying108 rfl rfl sz0_sint16 (by omega) (i := i + 1)) (by decide) ?_
          refine QL.gval rfl rfl (fun wq hq => Y.load1 Try.underlying112 rfl ((hm1.ext hq).cell0) rfl) (by decide) ?_
          refine QL.gval rfl rfl (fun wq hq => Y.move rfl) (by decide) ?_
          refine QL.gval rfl rfl (fun wq hq => Y.indexAddrN Try.underlying112 rfl rfl sz0_int16 (by omega)) (by decide) ?_
          refine QL.gval rfl rfl (fun wq hq => Y.load1 Try.underlying111 rfl ((hc1 j (by omega)).ext hq).cell0 rfl) (by decide) ?_
          refine QL.gval rfl rfl (fun wq hq => Y.move rfl) (by decide) ?_
          refine QL.gval rfl rfl (fun wq hq => Y.move rfl) (by decide) ?_
          refine QL.gval rfl rfl (fun wq hq => Y.indexAddrN Try.underlying108 rfl rfl sz0_sint16 (by omega)) (by decide) ?_
          refine QL.gval rfl rfl (fun wq hq => Y.load1 Try.underlying112 rfl ((hm0.ext hq).cell0) rfl) (by decide) ?_
          refine QL.gval rfl rfl (fun wq hq => Y.move rfl) (by decide) ?_
          refine QL.gval rfl rfl (fun wq hq => Y.add rfl rfl ⟨by omega, by omega⟩) (by decide) ?_
          refine QL.gval rfl rfl (fun wq hq => Y.indexAddrN Try.underlying112 rfl rfl sz0_int16 (by omega) (i := j + 1)) (by decide) ?_
          refine QL.gval rfl rfl (fun wq hq => Y.load1 Try.underlying111 rfl ((hc0 (j + 1) (by omega)).ext hq).cell0 rfl) (by decide) ?_
          refine QL.gval rfl rfl (fun wq hq => Y.leq rfl rfl) (by decide) ?_
          refine QL.gval rfl rfl (fun wq hq => Y.pick rfl rfl) (by decide) ?_
          refine QL.val (fun wq hq => Y.pick rfl rfl) (by decide) ?_
          refine QL.val (fun wq hq => Y.assign rfl) (by decide) ?_
          refine QL.nil fun wq hq => ⟨⟨_, rfl, ?_⟩, hq, (by repeat (first | exact Fr.le.refl | refine Fr.le.push rfl ?_))⟩
          first | (simp only [*, Int.natCast_inj, Bool.not_eq_true', decide_eq_false_iff_not, decide_eq_true_eq, not_true_eq_false, not_false_eq_true, true_and, false_and, and_true, and_false, false_or, or_false, true_or, or_true, iff_true, true_iff, iff_false, false_iff]; done) | (simp_all; done) | (refine congrArg Value.bool (Bool.eq_iff_iff.2 ?_); simp_all; done) | (simp_all; omega)
      · -- t73 = F
        refine QL.goff rfl rfl (by decide) ?_
        refine QL.goff rfl rfl (by decide) ?_
        refine QL.goff rfl rfl (by decide) ?_
        refine QL.goff rfl rfl (by decide) ?_
        refine QL.goff rfl rfl (by decide) ?_
        refine QL.goffU rfl rfl (by decide) ?_
        refine QL.goffU rfl rfl (by decide) ?_
        refine QL.goffU rfl rfl (by decide) ?_
        refine QL.goffU rfl rfl (by decide) ?_
        refine QL.goffU rfl rfl (by decide) ?_
        refine QL.goffU rfl rfl (by decide) ?_
        refine QL.goffU rfl rfl (by decide) ?_
        refine QL.goffU rfl rfl (by decide) ?_
        refine QL.goffU rfl rfl (by decide) ?_
        refine QL.goffU rfl rfl (by decide) ?_
        refine QL.goffU rfl rfl (by decide) ?_
        refine QL.goffU rfl rfl (by decide) ?_
        refine QL.goffU rfl rfl (by decide) ?_
        refine QL.goffU rfl rfl (by decide) ?_
        refine QL.goffU rfl rfl (by decide) ?_
        refine QL.goffU rfl rfl (by decide) ?_
        refine QL.goffU rfl rfl (by decide) ?_
        refine QL.goff rfl rfl (by decide) ?_
        refine QL.val (fun wq hq => Y.pick rfl rfl) (by decide) ?_
        refine QL.val (fun wq hq => Y.assign rfl) (by decide) ?_
        refine QL.nil fun wq hq => ⟨⟨_, rfl, ?_⟩, hq, (by repeat (first | exact Fr.le.refl | refine Fr.le.push rfl ?_))⟩
        first | (simp only [*, Int.natCast_inj, Bool.not_eq_true', decide_eq_false_iff_not, decide_eq_true_eq, not_true_eq_false, not_false_eq_true, true_and, false_and, and_true, and_false, false_or, or_false, true_or, or_true, iff_true, true_iff, iff_false, false_iff]; done) | (simp_all; done) | (refine congrArg Value.bool (Bool.eq_iff_iff.2 ?_); simp_all; done) | (simp_all; omega)
    intro w6 hx6; have hz6 := hx6.size; have hE := hE.thenExt hx6; have hB7 := hB7.ext hx6
    first | refine CW.condD rfl (fun ht15 => ?_) (fun ht15 => ?_) | refine CW.condND rfl (fun ht15 => ?_) (fun ht15 => ?_) | refine CW.condN rfl (fun ht15 => ?_) (fun ht15 => ?_) | refine CW.cond rfl (fun ht15 => ?_) (fun ht15 => ?_)
    · -- then
      refine CW.seq fun K16 hK16 => ?_
      refine CW.region ?_
      refine WL.val (Y.move rfl) (by decide) ?_
      refine WL.callV rfl Try.func45 rfl rfl rfl (fadd1_any g7 u l (i + j) .cut _ hB7 (hO.ext (hx4.thenExt hx6)) (by omega) hM.bd (by omega)) (by simp) ?_; rintro v99 w7 hR7
      obtain ⟨u2, hB7, hO2, hf2, hc7⟩ := hR7
      have hz7 := hc7.size
      have hfr2 : ∀ q, u2.ownBlock = some q → w1.heap.size ≤ q := fun q hq => by
        rcases hf2 q hq with h | h
        · exact hfu q h
        · omega
      have hCC : Chg (fun q => w1.heap.size ≤ q) w1 w7 := (hC.thenExt (hx4.thenExt hx6)).trans hc7 (fun q _ h => by rcases h with h | h; omega; exact hfu q h)
      have hE := hE.step hc7 (fun q h => by rcases h with h | h; omega; have := hfu q h; omega)
      refine WL.nil ?_
      refine hK16 _ _ ?_; try clear hK16 K16
      refine CW.region ?_
      refine WL.val (Y.move rfl) (by decide) ?_
      refine WL.val (Y.add rfl rfl ⟨by omega, by omega⟩) (by decide) ?_
      refine WL.val (Y.assign rfl) (by decide) ?_
      refine WL.nil ?_
      have hn : ¬ (((i : Int) < ((bs a).size : Int) ∧ (j : Int) < ((bs b).size : Int)) ∧ (((a[i]?).getD 0).toNat : Int) = (((b[j]?).getD 0).toNat : Int)) := by assumption
      have ht : (i : Int) < ((bs a).size : Int) ∧ ((j : Int) = ((bs b).size : Int) ∨ (cst (a.drop (i + 1)) (b.drop j) : Int) ≤ (cst (a.drop i) (b.drop (j + 1)) : Int)) := by assumption
      exact ⟨(i + 1, j, addE l .cut, u2), (by show (a.length - (i + 1)) + (b.length - (j)) < (a.length - i) + (b.length - j); omega), (by repeat (first | exact Fr.le.nil | refine Fr.le.cons rfl ?_)), hB7, hM.cut (by omega) (fun h => hn ⟨⟨by omega, by omega⟩, by rw [h.2]⟩) (by omega), hO2, hfr2, hCC, hE⟩
 
    refine CW.seq fun K17 hK17 => ?_
    refine CW.region ?_
    refine WL.val (Y.move rfl) (by decide) ?_
    refine WL.val (Y.move rfl) (by decide) ?_
    refine WL.val (Y.move rfl) (by decide) ?_
    refine WL.val (Y.move rfl) (by decide) ?_
    refine WL.val (Y.add rfl rfl ⟨by omega, by omega⟩) (by decide) ?_
    refine WL.val (Y.slice_str (i := j) (j := j + 1) Try.underlying9 rfl rfl rfl rfl rfl (by omega) (by omega)) (by decide) ?_
    rw [bs_one (by omega)]
    refine WL.callV rfl Try.func45 rfl rfl rfl (fadd1_any g7 u l (i + j) (.put ((b[j]?).getD 0)) _ hB7 (hO.ext (hx4.thenExt hx6)) (by omega) hM.bd (by omega)) (by simp) ?_; rintro v39 w8 hR8
    obtain ⟨u2, hB7, hO2, hf2, hc8⟩ := hR8
    have hz8 := hc8.size
    have hfr2 : ∀ q, u2.ownBlock = some q → w1.heap.size ≤ q := fun q hq => by
      rcases hf2 q hq with h | h
      · exact hfu q h
      · omega
    have hCC : Chg (fun q => w1.heap.size ≤ q) w1 w8 := (hC.thenExt (hx4.thenExt hx6)).trans hc8 (fun q _ h => by rcases h with h | h; omega; exact hfu q h)
    have hE := hE.step hc8 (fun q h => by rcases h with h | h; omega; have := hfu q h; omega)
    refine WL.nil ?_
    refine hK17 _ _ ?_; try clear hK17 K17
    refine CW.region ?_
    refine WL.val (Y.move rfl) (by decide) ?_
    refine WL.val (Y.add rfl rfl ⟨by omega, by omega⟩) (by decide) ?_
    refine WL.val (Y.assign rfl) (by decide) ?_
    refine WL.nil ?_
    have hn : ¬ (((i : Int) < ((bs a).size : Int) ∧ (j : Int) < ((bs b).size : Int)) ∧ (((a[i]?).getD 0).toNat : Int) = (((b[j]?).getD 0).toNat : Int)) := by assumption
    have hn2 : ¬ ((i : Int) < ((bs a).size : Int) ∧ ((j : Int) = ((bs b).size : Int) ∨ (cst (a.drop (i + 1)) (b.drop j) : Int) ≤ (cst (a.drop i) (b.drop (j + 1)) : Int))) := by assumption
    exact ⟨(i, j + 1, addE l (.put ((b[j]?).getD 0)), u2), (by show (a.length - (i)) + (b.length - (j + 1)) < (a.length - i) + (b.length - j); omega), (by repeat (first | exact Fr.le.nil | refine Fr.le.cons rfl ?_)), hB7, hM.put (by omega) (fun h => hn ⟨⟨by omega, by omega⟩, by rw [h.2]⟩) (fun h => hn2 ⟨by omega, .inr (by omega)⟩), hO2, hfr2, hCC, hE⟩
  refine CW.exit ?_
  refine hK9 _ _ ?_; try clear hK9 K9
  refine CW.seq fun K18 hK18 => ?_
  refine CW.region ?_
  refine WL.val (Y.load1 Try.underlying55 rfl hB7.mem.cell0 rfl) (by decide) ?_
  refine WL.val (Y.assign rfl) (by decide) ?_
  refine WL.val (Y.assign rfl) (by decide) ?_
  refine WL.nil ?_
  refine hK18 _ _ ?_; try clear hK18 K18
  refine CW.ret ⟨_, rfl, ?_⟩
  have hn0 : ¬ ((i : Int) < ((bs a).size : Int) ∨ (j : Int) < ((bs b).size : Int)) := by assumption
  have ei : i = a.length := by omega
  have ej : j = b.length := by omega
  subst ei; subst ej
  have hfin := hM.fin
  subst hfin
  exact ⟨u, by rw [mkErr, if_neg hsm]; rfl, by rw [mkE, if_neg hsm]; exact hO, (fun q hq => by have := hfu q hq; omega), hE⟩
set_option maxRecDepth 100000 in
set_option maxHeartbeats 4000000 in
theorem rmake_any (a b : List UInt8) (w : World) (ha : a.length < 4611686018427387904) (hb : b.length < 4611686018427387904) : Calls Try.prog 33 #[.string (bs a), .string (bs b)] w (Ret fun v w' => ∃ u, v = .tuple #[u, .int .i64 (mkErr a b : Int)] ∧ Own w' TE 3 u (edL (mkE a b)) ∧ (∀ q, u.ownBlock = some q → w.heap.size ≤ q) ∧ Ext w w') := by
  have hsa := bs_size a
  have hsb := bs_size b
  refine calls_of_CW 99 [4, 5] [(0, .string (bs a)), (1, .string (bs b))] Try.func33 rfl rfl rfl (by simp) args2 ?_
  have hE : Ext w w := Chg.refl
  refine CW.seq fun K1 hK1 => ?_
  refine CW.region ?_
  refine WL.val (Y.assign rfl) (by decide) ?_
  refine WL.val (Y.assign rfl) (by decide) ?_
  refine WL.nil ?_
  refine hK1 _ _ ?_; try clear hK1 K1
  refine CW.seq fun K2 hK2 => ?_
  refine CW.seq_test 17 ((1000 : Int) < ((bs a).size : Int) ∨ (1000 : Int) < ((bs b).size : Int)) ?_ ?_
  · refine CW.region ?_
    refine WL.val (Y.move rfl) (by decide) ?_
    refine WL.val (Y.len_string Try.underlying9 rfl) (by decide) ?_
    refine WL.val (Y.gtr rfl rfl) (by decide) ?_
    refine WL.val (Y.move rfl) (by decide) ?_
    first | refine WL.casesD (d := 13) rfl (fun hg13 => ?_) (fun hg13 => ?_) | refine WL.casesND (d := 13) rfl (fun hg13 => ?_) (fun hg13 => ?_) | refine WL.cases (d := 13) rfl (fun hg13 => ?_) (fun hg13 => ?_)
    · -- t13 = T
      refine WL.goff rfl rfl (by decide) ?_
      refine WL.goff rfl rfl (by decide) ?_
      refine WL.goff rfl rfl (by decide) ?_
      refine WL.val (Y.pick rfl rfl) (by decide) ?_
      refine WL.nil ⟨⟨_, rfl, ?_⟩, rfl, (by repeat (first | exact Fr.le.refl | refine Fr.le.push rfl ?_))⟩
      first | (simp only [*, Int.natCast_inj, Bool.not_eq_true', decide_eq_false_iff_not, decide_eq_true_eq, not_true_eq_false, not_false_eq_true, true_and, false_and, and_true, and_false, false_or, or_false, true_or, or_true, iff_true, true_iff, iff_false, false_iff]; done) | (simp_all; done) | (refine congrArg Value.bool (Bool.eq_iff_iff.2 ?_); simp_all; done) | (simp_all; omega)
    · -- t13 = F
      refine WL.gval rfl rfl (Y.move rfl) (by decide) ?_
      refine WL.gval rfl rfl (Y.len_string Try.underlying9 rfl) (by decide) ?_
      refine WL.gval rfl rfl (Y.gtr rfl rfl) (by decide) ?_
      refine WL.val (Y.pick rfl rfl) (by decide) ?_
      refine WL.nil ⟨⟨_, rfl, ?_⟩, rfl, (by repeat (first | exact Fr.le.refl | refine Fr.le.push rfl ?_))⟩
      first | (simp only [*, Int.natCast_inj, Bool.not_eq_true', decide_eq_false_iff_not, decide_eq_true_eq, not_true_eq_false, not_false_eq_true, true_and, false_and, and_true, and_false, false_or, or_false, true_or, or_true, iff_true, true_iff, iff_false, false_iff]; done) | (simp_all; done) | (refine congrArg Value.bool (Bool.eq_iff_iff.2 ?_); simp_all; done) | (simp_all; omega)
  first | refine CW.condD rfl (fun ht3 => ?_) (fun ht3 => ?_) | refine CW.condND rfl (fun ht3 => ?_) (fun ht3 => ?_) | refine CW.condN rfl (fun ht3 => ?_) (fun ht3 => ?_) | refine CW.cond rfl (fun ht3 => ?_) (fun ht3 => ?_)
  · -- then
    refine CW.seq fun K4 hK4 => ?_
    refine CW.region ?_
    refine WL.val (Y.assign rfl) (by decide) ?_
    refine WL.val (Y.assign rfl) (by decide) ?_
    refine WL.nil ?_
    refine hK4 _ _ ?_; try clear hK4 K4
    refine CW.ret ⟨_, rfl, ?_⟩
    have ht9 : (1000 : Int) < ((bs a).size : Int) ∨ (1000 : Int) < ((bs b).size : Int) := by assumption
    have hbig : 1000 < a.length ∨ 1000 < b.length := by omega
    exact ⟨.slice none 0 0, by rw [mkErr, if_pos hbig]; rfl, by rw [mkE, if_pos hbig]; exact Own.nil, (fun q h => by simp [Value.ownBlock] at h), hE⟩
  refine CW.skip ?_
  refine hK2 _ _ ?_; try clear hK2 K2
  refine CW.seq fun K5 hK5 => ?_
  refine CW.region ?_
  refine WL.val (Y.move rfl) (by decide) ?_
  refine WL.val (Y.move rfl) (by decide) ?_
  refine WL.call Try.func52 rfl rfl rfl (table_any a b _ (by omega) (by omega)) (by simp) ?_; rintro v20 w1 hR1
  obtain ⟨hTab, hx1⟩ := hR1
  have hz1 := hx1.size
  have hE := hE.thenExt hx1
  obtain ⟨tA, tc, rfl, hrow⟩ := id hTab
  have hsm : ¬ (1000 < a.length ∨ 1000 < b.length) := by omega
  refine WL.val (Y.assign rfl) (by decide) ?_
  refine WL.nil ?_
  refine hK5 _ _ ?_; try clear hK5 K5
  refine CW.seq fun K6 hK6 => ?_
  refine CW.region ?_
  refine WL.val (Y.assign rfl) (by decide) ?_
  refine WL.nil ?_
  refine hK6 _ _ ?_; try clear hK6 K6
  refine CW.seq fun K7 hK7 => ?_
  refine CW.region ?_
  refine WL.val (Y.assign rfl) (by decide) ?_
  refine WL.nil ?_
  refine hK7 _ _ ?_; try clear hK7 K7
  refine CW.seq fun K8 hK8 => ?_
  refine CW.region ?_
  refine WL.val (Y.assign rfl) (by decide) ?_
  refine WL.nil ?_
  refine hK8 _ _ ?_; try clear hK8 K8
  refine CW.seq fun K9 hK9 => ?_
  refine CW.block ?_
  refine CW.loop (X := Nat × Nat × List EdD × Value) (fun x => [(0, .string (bs a)), (1, .string (bs b)), (6, .slice (some tA) (a.length + 1) tc), (7, x.2.2.2), (8, .int .i64 (x.1 : Int)), (9, .int .i64 (x.2.1 : Int))]) (fun x w0 => MkAt a b x.1 x.2.1 x.2.2.1 ∧ Own w0 TE 3 x.2.2.2 (edL x.2.2.1) ∧ (∀ q, x.2.2.2.ownBlock = some q → w1.heap.size ≤ q) ∧ Chg (fun q => w1.heap.size ≤ q) w1 w0 ∧ Ext w w0) (fun x => (a.length - x.1) + (b.length - x.2.1)) (0, 0, [], .slice none 0 0) (by repeat (first | exact Fr.le.nil | refine Fr.le.cons rfl ?_)) ⟨MkAt.start a b, Own.nil, (fun q h => by simp [Value.ownBlock] at h), Chg.refl, hE⟩ ?_
  intro x w2 hl2
  obtain ⟨i, j, l, u⟩ := x
  dsimp only at hl2 ⊢
  obtain ⟨hM, hO, hfu, hC, hE⟩ := hl2
  have hTab2 := hTab.far hC (fun k h => h)
  obtain ⟨tA2, tc2, hte, hrow2⟩ := id hTab2
  injection hte with hte _ _
  injection hte with hte
  subst hte
  have hmi := hM.hi
  have hmj := hM.hj
  have hml := hM.len
  have hzc := hC.size
  refine CW.seq fun K10 hK10 => ?_
  refine CW.seq_test 30 ((i : Int) < ((bs a).size : Int) ∨ (j : Int) < ((bs b).size : Int)) ?_ ?_
  · refine CW.region ?_
    refine WL.val (Y.move rfl) (by decide) ?_
    refine WL.val (Y.move rfl) (by decide) ?_
    refine WL.val (Y.len_string Try.underlying9 rfl) (by decide) ?_
    refine WL.val (Y.lss rfl rfl) (by decide) ?_
    refine WL.val (Y.move rfl) (by decide) ?_
    first | refine WL.casesD (d := 25) rfl (fun hg25 => ?_) (fun hg25 => ?_) | refine WL.casesND (d := 25) rfl (fun hg25 => ?_) (fun hg25 => ?_) | refine WL.cases (d := 25) rfl (fun hg25 => ?_) (fun hg25 => ?_)
    · -- t25 = T
      refine WL.goff rfl rfl (by decide) ?_
      refine WL.goff rfl rfl (by decide) ?_
      refine WL.goff rfl rfl (by decide) ?_
      refine WL.goff rfl rfl (by decide) ?_
      refine WL.val (Y.pick rfl rfl) (by decide) ?_
      refine WL.nil ⟨⟨_, rfl, ?_⟩, rfl, (by repeat (first | exact Fr.le.refl | refine Fr.le.push rfl ?_))⟩
      first | (simp only [*, Int.natCast_inj, Bool.not_eq_true', decide_eq_false_iff_not, decide_eq_true_eq, not_true_eq_false, not_false_eq_true, true_and, false_and, and_true, and_false, false_or, or_false, true_or, or_true, iff_true, true_iff, iff_false, false_iff]; done) | (simp_all; done) | (refine congrArg Value.bool (Bool.eq_iff_iff.2 ?_); simp_all; done) | (simp_all; omega)
    · -- t25 = F
      refine WL.gval rfl rfl (Y.move rfl) (by decide) ?_
      refine WL.gval rfl rfl (Y.move rfl) (by decide) ?_
      refine WL.gval rfl rfl (Y.len_string Try.underlying9 rfl) (by decide) ?_
      refine WL.gval rfl rfl (Y.lss rfl rfl) (by decide) ?_
      refine WL.val (Y.pick rfl rfl) (by decide) ?_
      refine WL.nil ⟨⟨_, rfl, ?_⟩, rfl, (by repeat (first | exact Fr.le.refl | refine Fr.le.push rfl ?_))⟩
      first | (simp only [*, Int.natCast_inj, Bool.not_eq_true', decide_eq_false_iff_not, decide_eq_true_eq, not_true_eq_false, not_false_eq_true, true_and, false_and, and_true, and_false, false_or, or_false, true_or, or_true, iff_true, true_iff, iff_false, false_iff]; done) | (simp_all; done) | (refine congrArg Value.bool (Bool.eq_iff_iff.2 ?_); simp_all; done) | (simp_all; omega)
  first | refine CW.condD rfl (fun ht11 => ?_) (fun ht11 => ?_) | refine CW.condND rfl (fun ht11 => ?_) (fun ht11 => ?_) | refine CW.condN rfl (fun ht11 => ?_) (fun ht11 => ?_) | refine CW.cond rfl (fun ht11 => ?_) (fun ht11 => ?_)
  · -- then
    refine CW.skip ?_
    refine hK10 _ _ ?_; try clear hK10 K10
    refine CW.block ?_
    refine CW.seq_testE 49 (((i : Int) < ((bs a).size : Int) ∧ (j : Int) < ((bs b).size : Int)) ∧ (((a[i]?).getD 0).toNat : Int) = (((b[j]?).getD 0).toNat : Int)) ?_ ?_
    · refine CW.quiet (fun wq => Ext w2 wq) (by kernel_rfl) (by kernel_rfl) Chg.drew ?_
      refine QL.val (fun wq hq => Y.move rfl) (by decide) ?_
      refine QL.val (fun wq hq => Y.move rfl) (by decide) ?_
      refine QL.val (fun wq hq => Y.len_string Try.underlying9 rfl) (by decide) ?_
      refine QL.val (fun wq hq => Y.lss rfl rfl) (by decide) ?_
      refine QL.val (fun wq hq => Y.move rfl) (by decide) ?_
      first | refine QL.casesD (d := 35) rfl (fun hg35 => ?_) (fun hg35 => ?_) | refine QL.casesND (d := 35) rfl (fun hg35 => ?_) (fun hg35 => ?_) | refine QL.cases (d := 35) rfl (fun hg35 => ?_) (fun hg35 => ?_)
      · -- t35 = T
        refine QL.gval rfl rfl (fun wq hq => Y.move rfl) (by decide) ?_
        refine QL.gval rfl rfl (fun wq hq => Y.move rfl) (by decide) ?_
        refine QL.gval rfl rfl (fun wq hq => Y.len_string Try.underlying9 rfl) (by decide) ?_
        refine QL.gval rfl rfl (fun wq hq => Y.lss rfl rfl) (by decide) ?_
        refine QL.val (fun wq hq => Y.pick rfl rfl) (by decide) ?_
        refine QL.val (fun wq hq => Y.move rfl) (by decide) ?_
        first | refine QL.casesD (d := 41) rfl (fun hg41 => ?_) (fun hg41 => ?_) | refine QL.casesND (d := 41) rfl (fun hg41 => ?_) (fun hg41 => ?_) | refine QL.cases (d := 41) rfl (fun hg41 => ?_) (fun hg41 => ?_)
        · -- t41 = T
          refine QL.gval rfl rfl (fun wq hq => Y.move rfl) (by decide) ?_
          refine QL.gval rfl rfl (fun wq hq => Y.move rfl) (by decide) ?_
          refine QL.gval rfl rfl (fun wq hq => Y.index_string (i := i) (s := bs a) Try.underlying9 rfl rfl (by omega)) (by decide) ?_
          rw [bsG]
          refine QL.gval rfl rfl (fun wq hq => Y.move rfl) (by decide) ?_
          refine QL.gval rfl rfl (fun wq hq => Y.move rfl) (by decide) ?_
          refine QL.gval rfl rfl (fun wq hq => Y.index_string (i := j) (s := bs b) Try.underlying9 rfl rfl (by omega)) (by decide) ?_
          rw [bsG]
          refine QL.gval rfl rfl (fun wq hq => Y.eql rfl rfl) (by decide) ?_
          refine QL.val (fun wq hq => Y.pick rfl rfl) (by decide) ?_
          refine QL.nil fun wq hq => ⟨⟨_, rfl, ?_⟩, hq, (by repeat (first | exact Fr.le.refl | refine Fr.le.push rfl ?_))⟩
          first | (simp only [*, Int.natCast_inj, Bool.not_eq_true', decide_eq_false_iff_not, decide_eq_true_eq, not_true_eq_false, not_false_eq_true, true_and, false_and, and_true, and_false, false_or, or_false, true_or, or_true, iff_true, true_iff, iff_false, false_iff]; done) | (simp_all; done) | (refine congrArg Value.bool (Bool.eq_iff_iff.2 ?_); simp_all; done) | (simp_all; omega)
        · -- t41 = F
          refine QL.goff rfl rfl (by decide) ?_
          refine QL.goff rfl rfl (by decide) ?_
          refine QL.goff rfl rfl (by decide) ?_
          refine QL.goff rfl rfl (by decide) ?_
          refine QL.goff rfl rfl (by decide) ?_
          refine QL.goff rfl rfl (by decide) ?_
          refine QL.goff rfl rfl (by decide) ?_
          refine QL.val (fun wq hq => Y.pick rfl rfl) (by decide) ?_
          refine QL.nil fun wq hq => ⟨⟨_, rfl, ?_⟩, hq, (by repeat (first | exact Fr.le.refl | refine Fr.le.push rfl ?_))⟩
          first | (simp only [*, Int.natCast_inj, Bool.not_eq_true', decide_eq_false_iff_not, decide_eq_true_eq, not_true_eq_false, not_false_eq_true, true_and, false_and, and_true, and_false, false_or, or_false, true_or, or_true, iff_true, true_iff, iff_false, false_iff]; done) | (simp_all; done) | (refine congrArg Value.bool (Bool.eq_iff_iff.2 ?_); simp_all; done) | (simp_all; omega)
      · -- t35 = F
        refine QL.goff rfl rfl (by decide) ?_
        refine QL.goff rfl rfl (by decide) ?_
        refine QL.goff rfl rfl (by decide) ?_
        refine QL.goff rfl rfl (by decide) ?_
        refine QL.val (fun wq hq => Y.pick rfl rfl) (by decide) ?_
        refine QL.val (fun wq hq => Y.move rfl) (by decide) ?_
        refine QL.goff rfl rfl (by decide) ?_
        refine QL.goff rfl rfl (by decide) ?_
        refine QL.goff rfl rfl (by decide) ?_
        refine QL.goff rfl rfl (by decide) ?_
        refine QL.goff rfl rfl (by decide) ?_
        refine QL.goff rfl rfl (by decide) ?_
        refine QL.goff rfl rfl (by decide) ?_
        refine QL.val (fun wq hq => Y.pick rfl rfl) (by decide) ?_
        refine QL.nil fun wq hq => ⟨⟨_, rfl, ?_⟩, hq, (by repeat (first | exact Fr.le.refl | refine Fr.le.push rfl ?_))⟩
        first | (simp only [*, Int.natCast_inj, Bool.not_eq_true', decide_eq_false_iff_not, decide_eq_true_eq, not_true_eq_false, not_false_eq_true, true_and, false_and, and_true, and_false, false_or, or_false, true_or, or_true, iff_true, true_iff, iff_false, false_iff]; done) | (simp_all; done) | (refine congrArg Value.bool (Bool.eq_iff_iff.2 ?_); simp_all; done) | (simp_all; omega)
    intro w3 hx3; have hz3 := hx3.size; have hE := hE.thenExt hx3
    first | refine CW.condD rfl (fun ht12 => ?_) (fun ht12 => ?_) | refine CW.condND rfl (fun ht12 => ?_) (fun ht12 => ?_) | refine CW.condN rfl (fun ht12 => ?_) (fun ht12 => ?_) | refine CW.cond rfl (fun ht12 => ?_) (fun ht12 => ?_)
    · -- then
      refine CW.seq fun K13 hK13 => ?_
      refine CW.region ?_
      refine WL.val (Y.move rfl) (by decide) ?_
      refine WL.call Try.func53 rfl rfl rfl (more_any u l (i + j) .keep _ (hO.ext hx3) (by omega) hM.bd (by omega)) (by simp) ?_; rintro v51 w4 hR4
      obtain ⟨hO2, hf2, hc4⟩ := hR4
      have hz4 := hc4.size
      have hfr2 : ∀ q, v51.ownBlock = some q → w1.heap.size ≤ q := fun q hq => by
        rcases hf2 q hq with h | h
        · exact hfu q h
        · omega
      have hCC : Chg (fun q => w1.heap.size ≤ q) w1 w4 := (hC.thenExt hx3).trans hc4 (fun q _ h => hfu q h)
      have hE := hE.step hc4 (fun q h => by have := hfu q h; omega)
      refine WL.val (Y.assign rfl) (by decide) ?_
      refine WL.nil ?_
      refine hK13 _ _ ?_; try clear hK13 K13
      refine CW.seq fun K14 hK14 => ?_
      refine CW.region ?_
      refine WL.val (Y.move rfl) (by decide) ?_
      refine WL.val (Y.add rfl rfl ⟨by omega, by omega⟩) (by decide) ?_
      refine WL.val (Y.assign rfl) (by decide) ?_
      refine WL.nil ?_
      refine hK14 _ _ ?_; try clear hK14 K14
      refine CW.region ?_
      refine WL.val (Y.move rfl) (by decide) ?_
      refine WL.val (Y.add rfl rfl ⟨by omega, by omega⟩) (by decide) ?_
      refine WL.val (Y.assign rfl) (by decide) ?_
      refine WL.nil ?_
      have ht : ((i : Int) < ((bs a).size : Int) ∧ (j : Int) < ((bs b).size : Int)) ∧ (((a[i]?).getD 0).toNat : Int) = (((b[j]?).getD 0).toNat : Int) := by assumption
      exact ⟨(i + 1, j + 1, addE l .keep, v51), (by show (a.length - (i + 1)) + (b.length - (j + 1)) < (a.length - i) + (b.length - j); omega), (by repeat (first | exact Fr.le.nil | refine Fr.le.cons rfl ?_)), hM.keep (by omega) (by omega) (UInt8.toNat_inj.1 (by omega)), hO2, hfr2, hCC, hE⟩
 
    refine CW.seq_testE 84 ((i : Int) < ((bs a).size : Int) ∧ ((j : Int) = ((bs b).size : Int) ∨ (cst (a.drop (i + 1)) (b.drop j) : Int) ≤ (cst (a.drop i) (b.drop (j + 1)) : Int))) ?_ ?_
    · refine CW.quiet (fun wq => Ext w3 wq) (by kernel_rfl) (by kernel_rfl) Chg.drew ?_
      refine QL.val (fun wq hq => Y.move rfl) (by decide) ?_
      refine QL.val (fun wq hq => Y.move rfl) (by decide) ?_
      refine QL.val (fun wq hq => Y.len_string Try.underlying9 rfl) (by decide) ?_
      refine QL.val (fun wq hq => Y.lss rfl rfl) (by decide) ?_
      refine QL.val (fun wq hq => Y.move rfl) (by decide) ?_
      first | refine QL.casesD (d := 60) rfl (fun hg60 => ?_) (fun hg60 => ?_) | refine QL.casesND (d := 60) rfl (fun hg60 => ?_) (fun hg60 => ?_) | refine QL.cases (d := 60) rfl (fun hg60 => ?_) (fun hg60 => ?_)
      · -- t60 = T
        refine QL.gval rfl rfl (fun wq hq => Y.move rfl) (by decide) ?_
        refine QL.gval rfl rfl (fun wq hq => Y.move rfl) (by decide) ?_
        refine QL.gval rfl rfl (fun wq hq => Y.len_string Try.underlying9 rfl) (by decide) ?_
        refine QL.gval rfl rfl (fun wq hq => Y.eql rfl rfl) (by decide) ?_
        refine QL.gval rfl rfl (fun wq hq => Y.move rfl) (by decide) ?_
        first | refine QL.casesD (d := 65) rfl (fun hg65 => ?_) (fun hg65 => ?_) | refine QL.casesND (d := 65) rfl (fun hg65 => ?_) (fun hg65 => ?_) | refine QL.cases (d := 65) rfl (fun hg65 => ?_) (fun hg65 => ?_)
        · -- t65 = T
          refine QL.goff rfl rfl (by decide) ?_
          refine QL.goff rfl rfl (by decide) ?_
          refine QL.goff rfl rfl (by decide) ?_
          refine QL.goff rfl rfl (by decide) ?_
          refine QL.goff rfl rfl (by decide) ?_
          refine QL.goff rfl rfl (by decide) ?_
          refine QL.goff rfl rfl (by decide) ?_
          refine QL.goff rfl rfl (by decide) ?_
          refine QL.goff rfl rfl (by decide) ?_
          refine QL.goff rfl rfl (by decide) ?_
          refine QL.goff rfl rfl (by decide) ?_
          refine QL.goff rfl rfl (by decide) ?_
          refine QL.goff rfl rfl (by decide) ?_
          refine QL.goff rfl rfl (by decide) ?_
          refine QL.goff rfl rfl (by decide) ?_
          refine QL.goff rfl rfl (by decide) ?_
          refine QL.goff rfl rfl (by decide) ?_
          refine QL.gval rfl rfl (fun wq hq => Y.pick rfl rfl) (by decide) ?_
          refine QL.val (fun wq hq => Y.pick rfl rfl) (by decide) ?_
          refine QL.nil fun wq hq => ⟨⟨_, rfl, ?_⟩, hq, (by repeat (first | exact Fr.le.refl | refine Fr.le.push rfl ?_))⟩
          first | (simp only [*, Int.natCast_inj, Bool.not_eq_true', decide_eq_false_iff_not, decide_eq_true_eq, not_true_eq_false, not_false_eq_true, true_and, false_and, and_true, and_false, false_or, or_false, true_or, or_true, iff_true, true_iff, iff_false, false_iff]; done) | (simp_all; done) | (refine congrArg Value.bool (Bool.eq_iff_iff.2 ?_); simp_all; done) | (simp_all; omega)
        · -- t65 = F
          obtain ⟨r1, k1, hm1, hc1⟩ := hrow2 (i + 1) (by omega)
          obtain ⟨r0, k0, hm0, hc0⟩ := hrow2 i (by omega)
          have hm1 := hm1.ext hx3
          have hm0 := hm0.ext hx3
          have hc1 := fun j h => (hc1 j h).ext hx3
          have hc0 := fun j h => (hc0 j h).ext hx3
          refine QL.gval rfl rfl (fun wq hq => Y.move rfl) (by decide) ?_
          refine QL.gval rfl rfl (fun wq hq => Y.move rfl) (by decide) ?_
          refine QL.gval rfl rfl (fun wq hq => Y.add rfl rfl ⟨by omega, by omega⟩) (by decide) ?_
          refine QL.gval rfl rfl (fun wq hq => Y.indexAddrN Try.underlying117 rfl rfl sz0_sint (by omega) (i := i + 1)) (by decide) ?_
          refine QL.gval rfl rfl (fun wq hq => Y.load1 Try.underlying84 rfl ((hm1.ext hq).cell0) rfl) (by decide) ?_
          refine QL.gval rfl rfl (fun wq hq => Y.move rfl) (by decide) ?_
          refine QL.gval rfl rfl (fun wq hq => Y.indexAddrN Try.underlying84 rfl rfl sz0_int (by omega)) (by decide) ?_
          refine QL.gval rfl rfl (fun wq hq => Y.load1 Try.underlying3 rfl ((hc1 j (by omega)).ext hq).cell0 rfl) (by decide) ?_
          refine QL.gval rfl rfl (fun wq hq => Y.move rfl) (by decide) ?_
          refine QL.gval rfl rfl (fun wq hq => Y.move rfl) (by decide) ?_
          refine QL.gval rfl rfl (fun wq hq => Y.indexAddrN Try.underlying117 rfl rfl sz0_sint (by omega)) (by decide) ?_
          refine QL.gval rfl rfl (fun wq hq => Y.load1 Try.underlying84 rfl ((hm0.ext hq).cell0) rfl) (by decide) ?_
          refine QL.gval rfl rfl (fun wq hq => Y.move rfl) (by decide) ?_
          refine QL.gval rfl rfl (fun wq hq => Y.add rfl rfl ⟨by omega, by omega⟩) (by decide) ?_
          refine QL.gval rfl rfl (fun wq hq => Y.indexAddrN Try.underlying84 rfl rfl sz0_int (by omega) (i := j + 1)) (by decide) ?_
          refine QL.gval rfl rfl (fun wq hq => Y.load1 Try.underlying3 rfl ((hc0 (j + 1) (by omega)).ext hq).cell0 rfl) (by decide) ?_
          refine QL.gval rfl rfl (fun wq hq => Y.leq rfl rfl) (by decide) ?_
          refine QL.gval rfl rfl (fun wq hq => Y.pick rfl rfl) (by decide) ?_
          refine QL.val (fun wq hq => Y.pick rfl rfl) (by decide) ?_
          refine QL.nil fun wq hq => ⟨⟨_, rfl, ?_⟩, hq, (by repeat (first | exact Fr.le.refl | refine Fr.le.push rfl ?_))⟩
          first | (simp only [*, Int.natCast_inj, Bool.not_eq_true', decide_eq_false_iff_not, decide_eq_true_eq, not_true_eq_false, not_false_eq_true, true_and, false_and, and_true, and_false, false_or, or_false, true_or, or_true, iff_true, true_iff, iff_false, false_iff]; done) | (simp_all; done) | (refine congrArg Value.bool (Bool.eq_iff_iff.2 ?_); simp_all; done) | (simp_all; omega)
      · -- t60 = F
        refine QL.goff rfl rfl (by decide) ?_
        refine QL.goff rfl rfl (by decide) ?_
        refine QL.goff rfl rfl (by decide) ?_
        refine QL.goff rfl rfl (by decide) ?_
        refine QL.goff rfl rfl (by decide) ?_
        refine QL.goffU rfl rfl (by decide) ?_
        refine QL.goffU rfl rfl (by decide) ?_
        refine QL.goffU rfl rfl (by decide) ?_
        refine QL.goffU rfl rfl (by decide) ?_
        refine QL.goffU rfl rfl (by decide) ?_
        refine QL.goffU rfl rfl (by decide) ?_
        refine QL.goffU rfl rfl (by decide) ?_
        refine QL.goffU rfl rfl (by decide) ?_
        refine QL.goffU rfl rfl (by decide) ?_
        refine QL.goffU rfl rfl (by decide) ?_
        refine QL.goffU rfl rfl (by decide) ?_
        refine QL.goffU rfl rfl (by decide) ?_
        refine QL.goffU rfl rfl (by decide) ?_
        refine QL.goffU rfl rfl (by decide) ?_
        refine QL.goffU rfl rfl (by decide) ?_
        refine QL.goffU rfl rfl (by decide) ?_
        refine QL.goffU rfl rfl (by decide) ?_
        refine QL.goff rfl rfl (by decide) ?_
        refine QL.val (fun wq hq => Y.pick rfl rfl) (by decide) ?_
        refine QL.nil fun wq hq => ⟨⟨_, rfl, ?_⟩, hq, (by repeat (first | exact Fr.le.refl | refine Fr.le.push rfl ?_))⟩
        first | (simp only [*, Int.natCast_inj, Bool.not_eq_true', decide_eq_false_iff_not, decide_eq_true_eq, not_true_eq_false, not_false_eq_true, true_and, false_and, and_true, and_false, false_or, or_false, true_or, or_true, iff_true, true_iff, iff_false, false_iff]; done) | (simp_all; done) | (refine congrArg Value.bool (Bool.eq_iff_iff.2 ?_); simp_all; done) | (simp_all; omega)
    intro w5 hx5; have hz5 := hx5.size; have hE := hE.thenExt hx5
    first | refine CW.condD rfl (fun ht15 => ?_) (fun ht15 => ?_) | refine CW.condND rfl (fun ht15 => ?_) (fun ht15 => ?_) | refine CW.condN rfl (fun ht15 => ?_) (fun ht15 => ?_) | refine CW.cond rfl (fun ht15 => ?_) (fun ht15 => ?_)
    · -- then
      refine CW.seq fun K16 hK16 => ?_
      refine CW.region ?_
      refine WL.val (Y.move rfl) (by decide) ?_
      refine WL.call Try.func53 rfl rfl rfl (more_any u l (i + j) .cut _ (hO.ext (hx3.thenExt hx5)) (by omega) hM.bd (by omega)) (by simp) ?_; rintro v86 w6 hR6
      obtain ⟨hO2, hf2, hc6⟩ := hR6
      have hz6 := hc6.size
      have hfr2 : ∀ q, v86.ownBlock = some q → w1.heap.size ≤ q := fun q hq => by
        rcases hf2 q hq with h | h
        · exact hfu q h
        · omega
      have hCC : Chg (fun q => w1.heap.size ≤ q) w1 w6 := (hC.thenExt (hx3.thenExt hx5)).trans hc6 (fun q _ h => hfu q h)
      have hE := hE.step hc6 (fun q h => by have := hfu q h; omega)
      refine WL.val (Y.assign rfl) (by decide) ?_
      refine WL.nil ?_
      refine hK16 _ _ ?_; try clear hK16 K16
      refine CW.region ?_
      refine WL.val (Y.move rfl) (by decide) ?_
      refine WL.val (Y.add rfl rfl ⟨by omega, by omega⟩) (by decide) ?_
      refine WL.val (Y.assign rfl) (by decide) ?_
      refine WL.nil ?_
      have hn : ¬ (((i : Int) < ((bs a).size : Int) ∧ (j : Int) < ((bs b).size : Int)) ∧ (((a[i]?).getD 0).toNat : Int) = (((b[j]?).getD 0).toNat : Int)) := by assumption
      have ht : (i : Int) < ((bs a).size : Int) ∧ ((j : Int) = ((bs b).size : Int) ∨ (cst (a.drop (i + 1)) (b.drop j) : Int) ≤ (cst (a.drop i) (b.drop (j + 1)) : Int)) := by assumption
      exact ⟨(i + 1, j, addE l .cut, v86), (by show (a.length - (i + 1)) + (b.length - (j)) < (a.length - i) + (b.length - j); omega), (by repeat (first | exact Fr.le.nil | refine Fr.le.cons rfl ?_)), hM.cut (by omega) (fun h => hn ⟨⟨by omega, by omega⟩, by rw [h.2]⟩) (by omega), hO2, hfr2, hCC, hE⟩
 
    refine CW.seq fun K17 hK17 => ?_
    refine CW.region ?_
    refine WL.val (Y.move rfl) (by decide) ?_
    refine WL.val (Y.move rfl) (by decide) ?_
    refine WL.val (Y.move rfl) (by decide) ?_
    refine WL.val (Y.move rfl) (by decide) ?_
    refine WL.val (Y.add rfl rfl ⟨by omega, by omega⟩) (by decide) ?_
    refine WL.val (Y.slice_str (i := j) (j := j + 1) Try.underlying9 rfl rfl rfl rfl rfl (by omega) (by omega)) (by decide) ?_
    rw [bs_one (by omega)]
    refine WL.call Try.func53 rfl rfl rfl (more_any u l (i + j) (.put ((b[j]?).getD 0)) _ (hO.ext (hx3.thenExt hx5)) (by omega) hM.bd (by omega)) (by simp) ?_; rintro v95 w7 hR7
    obtain ⟨hO2, hf2, hc7⟩ := hR7
    have hz7 := hc7.size
    have hfr2 : ∀ q, v95.ownBlock = some q → w1.heap.size ≤ q := fun q hq => by
      rcases hf2 q hq with h | h
      · exact hfu q h
      · omega
    have hCC : Chg (fun q => w1.heap.size ≤ q) w1 w7 := (hC.thenExt (hx3.thenExt hx5)).trans hc7 (fun q _ h => hfu q h)
    have hE := hE.step hc7 (fun q h => by have := hfu q h; omega)
    refine WL.val (Y.assign rfl) (by decide) ?_
    refine WL.nil ?_
    refine hK17 _ _ ?_; try clear hK17 K17
    refine CW.region ?_
    refine WL.val (Y.move rfl) (by decide) ?_
    refine WL.val (Y.add rfl rfl ⟨by omega, by omega⟩) (by decide) ?_
    refine WL.val (Y.assign rfl) (by decide) ?_
    refine WL.nil ?_
    have hn : ¬ (((i : Int) < ((bs a).size : Int) ∧ (j : Int) < ((bs b).size : Int)) ∧ (((a[i]?).getD 0).toNat : Int) = (((b[j]?).getD 0).toNat : Int)) := by assumption
    have hn2 : ¬ ((i : Int) < ((bs a).size : Int) ∧ ((j : Int) = ((bs b).size : Int) ∨ (cst (a.drop (i + 1)) (b.drop j) : Int) ≤ (cst (a.drop i) (b.drop (j + 1)) : Int))) := by assumption
    exact ⟨(i, j + 1, addE l (.put ((b[j]?).getD 0)), v95), (by show (a.length - (i)) + (b.length - (j + 1)) < (a.length - i) + (b.length - j); omega), (by repeat (first | exact Fr.le.nil | refine Fr.le.cons rfl ?_)), hM.put (by omega) (fun h => hn ⟨⟨by omega, by omega⟩, by rw [h.2]⟩) (fun h => hn2 ⟨by omega, .inr (by omega)⟩), hO2, hfr2, hCC, hE⟩
  refine CW.exit ?_
  refine hK9 _ _ ?_; try clear hK9 K9
  refine CW.seq fun K18 hK18 => ?_
  refine CW.region ?_
  refine WL.val (Y.move rfl) (by decide) ?_
  refine WL.val (Y.assign rfl) (by decide) ?_
  refine WL.val (Y.assign rfl) (by decide) ?_
  refine WL.nil ?_
  refine hK18 _ _ ?_; try clear hK18 K18
  refine CW.ret ⟨_, rfl, ?_⟩
  have hn0 : ¬ ((i : Int) < ((bs a).size : Int) ∨ (j : Int) < ((bs b).size : Int)) := by assumption
  have ei : i = a.length := by omega
  have ej : j = b.length := by omega
  subst ei; subst ej
  have hfin := hM.fin
  subst hfin
  exact ⟨u, by rw [mkErr, if_neg hsm]; rfl, by rw [mkE, if_neg hsm]; exact hO, (fun q hq => by have := hfu q hq; omega), hE⟩
end Go.Proofs.Ytmndofgagngcgaa
