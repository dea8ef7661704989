/- recensionref04.Table, walked. No condition but the texts' lengths. -/
import Derived.Test.YtmndofgagngcgaaJe
set_option linter.unusedSimpArgs false
set_option linter.unusedVariables false
namespace Go.Fw
open Go.RowKit Go.Fu
/-- A row, as far as it is reckoned. -/
def RowTo (a b : List UInt8) (i : Nat) (f : Nat → Value) (j : Nat) : Prop := ∀ j', j ≤ j' → j' ≤ b.length → f j' = .int .i64 (cst (a.drop i) (b.drop j') : Int)
theorem RowTo.put {a b : List UInt8} {i j : Nat} {f : Nat → Value} {v : Value} (h : RowTo a b i f (j + 1)) (hv : v = .int .i64 (cst (a.drop i) (b.drop j) : Int)) : RowTo a b i (updL f j v) j := fun j' h1 h2 => by
  unfold updL
  by_cases e : j' = j
  · rw [if_pos e, e]; exact hv
  · rw [if_neg e]; exact h j' (by omega) h2
theorem RowTo.skip {a b : List UInt8} {i j : Nat} {f : Nat → Value} {v : Value} (h : RowTo a b i f (j + 1)) : RowTo a b i (updL f j v) (j + 1) := fun j' h1 h2 => by
  unfold updL
  rw [if_neg (by omega)]; exact h j' h1 h2
end Go.Fw
namespace Go.Proofs.Ytmndofgagngcgaa
open Go.RowKit Go.Fw Go.Fu Go.Pl
theorem sz0_sint : (Try.prog.info? 84).map (·.size) = some 1 := by kernel_rfl
theorem mi_int : MakeInfo Try.prog 3 [.int .i64 0] 8 := by
  have h : (Try.prog.info? 3).map (fun i => (i.zero, i.size, i.bytes)) = some (some (.int .i64 0), 1, 8) := by kernel_rfl
  obtain ⟨i, hi, h⟩ := Option.map_eq_some_iff.1 h
  injection h with h1 h2
  injection h2 with h2 h3
  exact ⟨i, _, hi, h1, rfl, h2, h3⟩
theorem mi_sint : MakeInfo Try.prog 84 [.slice none 0 0] 24 := by
  have h : (Try.prog.info? 84).map (fun i => (i.zero, i.size, i.bytes)) = some (some (.slice none 0 0), 1, 24) := by kernel_rfl
  obtain ⟨i, hi, h⟩ := Option.map_eq_some_iff.1 h
  injection h with h1 h2
  injection h2 with h2 h3
  exact ⟨i, _, hi, h1, rfl, h2, h3⟩
/-- The rows that are whole. -/
def RowsOk (w : World) (R lim : Nat) (a b : List UInt8) (g : Nat → Value) (i : Nat) : Prop := ∀ i', i ≤ i' → i' ≤ a.length → ∃ q, g i' = .slice (some ⟨q, 0, none⟩) ((bs b).size + 1) ((bs b).size + 1) ∧ q ≠ R ∧ q < lim ∧ Blk w q 3 (tabL ((bs b).size + 1) fun j => .int .i64 (cst (a.drop i') (b.drop j) : Int))
section
variable {w w' : World} {R lim : Nat} {a b : List UInt8} {g : Nat → Value} {i : Nat} {S : Nat → Prop}
theorem RowsOk.chg (h : RowsOk w R lim a b g i) (hc : Chg S w w') (hs : ∀ q, q ≠ R → q < lim → ¬ S q) : RowsOk w' R lim a b g i := fun i' h1 h2 => by
  obtain ⟨q, e, h3, h4, hB⟩ := h i' h1 h2
  exact ⟨q, e, h3, h4, hB.chg hc (hs q h3 h4)⟩
theorem RowsOk.ext (h : RowsOk w R lim a b g i) (hc : Ext w w') : RowsOk w' R lim a b g i := h.chg hc fun _ _ _ f => f
theorem RowsOk.upd {v : Value} (h : RowsOk w R lim a b g (i + 1)) : RowsOk w R lim a b (updL g i v) (i + 1) := fun i' h1 h2 => by
  obtain ⟨q, e, hr⟩ := h i' h1 h2
  exact ⟨q, by unfold updL; rw [if_neg (by omega)]; exact e, hr⟩
theorem RowsOk.grow {l2 : Nat} (h : RowsOk w R lim a b g i) (hl : lim ≤ l2) : RowsOk w R l2 a b g i := fun i' h1 h2 => by
  obtain ⟨q, e, h3, h4, hB⟩ := h i' h1 h2
  exact ⟨q, e, h3, by omega, hB⟩
end

set_option maxRecDepth 100000 in
set_option maxHeartbeats 4000000 in
theorem table_any (a b : List UInt8) (w : World) (ha : a.length ≤ 1000) (hb : b.length ≤ 1000) : Calls Try.prog 52 #[.string (bs a), .string (bs b)] w (Ret fun v w' => TabR w' .i64 v (a.length + 1) (b.length + 1) (fun i j => (cst (a.drop i) (b.drop j) : Int)) ∧ Ext w w') := by
  have hsa := bs_size a
  have hsb := bs_size b
  refine calls_of_CW 103 [4] [(0, .string (bs a)), (1, .string (bs b))] Try.func52 rfl rfl rfl (by simp) args2 ?_
  have hE : Ext w w := Chg.refl
  refine CW.seq fun K1 hK1 => ?_
  refine CW.region ?_
  refine WL.val (Y.assign rfl) (by decide) ?_
  refine WL.nil ?_
  refine hK1 _ _ ?_; try clear hK1 K1
  refine CW.seq fun K2 hK2 => ?_
  refine CW.region ?_
  refine WL.val (Y.move rfl) (by decide) ?_
  refine WL.val (Y.len_string Try.underlying9 rfl) (by decide) ?_
  refine WL.val (Y.add rfl rfl ⟨by omega, by omega⟩) (by decide) ?_
  refine WL.st (St.makeK (m := ((bs a).size + 1)) Try.underlying117 mi_sint rfl rfl (by omega) (by omega)) (by decide) fun v11 w1 hR1 => ?_
  obtain ⟨R, rfl, hgR, hR, hx1⟩ := hR1
  have hz1 := hx1.size
  rw [rep_one] at hR
  have hE := hE.thenExt hx1
  refine WL.val (Y.assign rfl) (by decide) ?_
  refine WL.nil ?_
  refine hK2 _ _ ?_; try clear hK2 K2
  refine CW.seq fun K3 hK3 => ?_
  refine CW.seq fun K4 hK4 => ?_
  refine CW.region ?_
  refine WL.val (Y.move rfl) (by decide) ?_
  refine WL.val (Y.len_string Try.underlying9 rfl) (by decide) ?_
  refine WL.val (Y.assign rfl) (by decide) ?_
  refine WL.nil ?_
  refine hK4 _ _ ?_; try clear hK4 K4
  refine CW.block ?_
  refine CW.loop (X := Nat × (Nat → Value)) (fun x => [(0, .string (bs a)), (1, .string (bs b)), (5, .slice (some ⟨R, 0, none⟩) ((bs a).size + 1) ((bs a).size + 1)), (6, .int .i64 ((x.1 : Int) - 1))]) (fun x w0 => x.1 ≤ ((bs a).size + 1) ∧ Blk w0 R 84 (tabL ((bs a).size + 1) x.2) ∧ RowsOk w0 R w0.heap.size a b x.2 x.1 ∧ Ext w w0) (fun x => x.1) ((bs a).size + 1, fun _ => .slice none 0 0) (by repeat (first | exact Fr.le.nil | refine Fr.le.cons rfl ?_ | refine Fr.le.cons (by show some (Value.int .i64 _) = some (Value.int .i64 _); congr 2; dsimp only; omega) ?_)) ⟨Nat.le_refl _, hR, (fun i1 h1 h2 => by have h1 : (bs a).size + 1 ≤ i1 := h1; omega), hE⟩ ?_
  intro x w2 hl2
  obtain ⟨x, g⟩ := x
  dsimp only at hl2 ⊢
  obtain ⟨hxm, hR, hRows, hE⟩ := hl2
  have hltR := hR.lt
  refine CW.seq fun K5 hK5 => ?_
  refine CW.seq fun K6 hK6 => ?_
  refine CW.region ?_
  refine WL.val (Y.move rfl) (by decide) ?_
  refine WL.val (Y.geq rfl rfl) (by decide) ?_
  refine WL.nil ?_
  refine hK6 _ _ ?_; try clear hK6 K6
  first | refine CW.condD rfl (fun ht7 => ?_) (fun ht7 => ?_) | refine CW.condND rfl (fun ht7 => ?_) (fun ht7 => ?_) | refine CW.condN rfl (fun ht7 => ?_) (fun ht7 => ?_) | refine CW.cond rfl (fun ht7 => ?_) (fun ht7 => ?_)
  · -- then
    refine CW.skip ?_
    refine hK5 _ _ ?_; try clear hK5 K5
    refine CW.seq fun K8 hK8 => ?_
    refine CW.block ?_
    refine CW.seq fun K9 hK9 => ?_
    obtain ⟨i, rfl⟩ : ∃ i, x = i + 1 := ⟨x - 1, by omega⟩
    rw [show (((i + 1 : Nat) : Int) - 1) = (i : Int) by omega]
    refine CW.region ?_
    refine WL.val (Y.move rfl) (by decide) ?_
    refine WL.val (Y.move rfl) (by decide) ?_
    refine WL.val (Y.move rfl) (by decide) ?_
    refine WL.val (Y.len_string Try.underlying9 rfl) (by decide) ?_
    refine WL.val (Y.add rfl rfl ⟨by omega, by omega⟩) (by decide) ?_
    refine WL.st (St.makeK (m := ((bs b).size + 1)) Try.underlying84 mi_int rfl rfl (by omega) (by omega)) (by decide) fun v23 w3 hR3 => ?_
    obtain ⟨cur, rfl, hgc, hC, hx3⟩ := hR3
    have hz3 := hx3.size
    rw [rep_one] at hC
    have hE := hE.thenExt hx3
    have hR := hR.ext hx3
    have hRows := hRows.ext hx3
    have hne : cur ≠ R := by omega
    refine WL.val (Y.indexAddrN Try.underlying117 rfl rfl sz0_sint (by omega)) (by decide) ?_
    refine WL.storeC (i := i) rfl rfl rfl rfl rfl (by kernel_rfl) hR ((by rw [tabL_length]; omega)) (fun w4 hc4 hB4_ => ?_)
    have hz4 := hc4.size; have hE := hE.step hc4 (fun k h => by omega)
    rw [tabL_set] at hB4_
    have hR := hB4_
    have hC := hC.chg hc4 (fun h => hne h)
    have hRows := (hRows.chg hc4 (fun q h1 _ h => h1 h)).upd (v := .slice (some ⟨cur, 0, none⟩) ((bs b).size + 1) ((bs b).size + 1))
    obtain ⟨g2, hg2⟩ : ∃ g2, g2 = updL g i (.slice (some ⟨cur, 0, none⟩) ((bs b).size + 1) ((bs b).size + 1)) := ⟨_, rfl⟩
    rw [← hg2] at hR hRows
    have hgi : g2 i = .slice (some ⟨cur, 0, none⟩) ((bs b).size + 1) ((bs b).size + 1) := by rw [hg2]; exact if_pos rfl
    refine WL.nil ?_
    refine hK9 _ _ ?_; try clear hK9 K9
    refine CW.seq fun K10 hK10 => ?_
    refine CW.region ?_
    refine WL.val (Y.move rfl) (by decide) ?_
    refine WL.val (Y.len_string Try.underlying9 rfl) (by decide) ?_
    refine WL.val (Y.assign rfl) (by decide) ?_
    refine WL.nil ?_
    refine hK10 _ _ ?_; try clear hK10 K10
    refine CW.block ?_
    refine CW.loop (X := Nat × (Nat → Value)) (fun x => [(0, .string (bs a)), (1, .string (bs b)), (5, .slice (some ⟨R, 0, none⟩) ((bs a).size + 1) ((bs a).size + 1)), (6, .int .i64 (i : Int)), (7, .int .i64 ((x.1 : Int) - 1))]) (fun x w0 => x.1 ≤ ((bs b).size + 1) ∧ Blk w0 R 84 (tabL ((bs a).size + 1) g2) ∧ Blk w0 cur 3 (tabL ((bs b).size + 1) x.2) ∧ RowsOk w0 R w2.heap.size a b g2 (i + 1) ∧ RowTo a b i x.2 x.1 ∧ Ext w w0) (fun x => x.1) ((bs b).size + 1, fun _ => .int .i64 0) (by repeat (first | exact Fr.le.nil | refine Fr.le.cons rfl ?_ | refine Fr.le.cons (by show some (Value.int .i64 _) = some (Value.int .i64 _); congr 2; dsimp only; omega) ?_)) ⟨Nat.le_refl _, hR, hC, hRows, (fun j1 h1 h2 => by have h1 : (bs b).size + 1 ≤ j1 := h1; omega), hE⟩ ?_
    intro x w5 hl5
    obtain ⟨y, f⟩ := x
    dsimp only at hl5 ⊢
    obtain ⟨hym, hR, hC, hRows, hD, hE⟩ := hl5
    have hltC := hC.lt
    have hltR := hR.lt
    refine CW.seq fun K11 hK11 => ?_
    refine CW.seq fun K12 hK12 => ?_
    refine CW.region ?_
    refine WL.val (Y.move rfl) (by decide) ?_
    refine WL.val (Y.geq rfl rfl) (by decide) ?_
    refine WL.nil ?_
    refine hK12 _ _ ?_; try clear hK12 K12
    first | refine CW.condD rfl (fun ht13 => ?_) (fun ht13 => ?_) | refine CW.condND rfl (fun ht13 => ?_) (fun ht13 => ?_) | refine CW.condN rfl (fun ht13 => ?_) (fun ht13 => ?_) | refine CW.cond rfl (fun ht13 => ?_) (fun ht13 => ?_)
    · -- then
      refine CW.skip ?_
      refine hK11 _ _ ?_; try clear hK11 K11
      obtain ⟨j, rfl⟩ : ∃ j, y = j + 1 := ⟨y - 1, by omega⟩
      rw [show (((j + 1 : Nat) : Int) - 1) = (j : Int) by omega]
      refine CW.seq_to (X := Nat → Value) (fun _ => [(0, .string (bs a)), (1, .string (bs b)), (5, .slice (some ⟨R, 0, none⟩) ((bs a).size + 1) ((bs a).size + 1)), (6, .int .i64 (i : Int)), (7, .int .i64 (j : Int))]) (fun f2 w0 => Blk w0 R 84 (tabL ((bs a).size + 1) g2) ∧ Blk w0 cur 3 (tabL ((bs b).size + 1) f2) ∧ RowsOk w0 R w2.heap.size a b g2 (i + 1) ∧ RowTo a b i f2 j ∧ Ext w w0) ?_ ?_
      · skip
        refine CW.block ?_
        refine CW.seq fun K15 hK15 => ?_
        refine CW.seq_test 40 ((i : Int) = ((bs a).size : Int) ∨ (j : Int) = ((bs b).size : Int)) ?_ ?_
        · refine CW.region ?_
          refine WL.val (Y.move rfl) (by decide) ?_
          refine WL.val (Y.move rfl) (by decide) ?_
          refine WL.val (Y.len_string Try.underlying9 rfl) (by decide) ?_
          refine WL.val (Y.eql rfl rfl) (by decide) ?_
          refine WL.val (Y.move rfl) (by decide) ?_
          first | refine WL.casesD (d := 35) rfl (fun hg35 => ?_) (fun hg35 => ?_) | refine WL.casesND (d := 35) rfl (fun hg35 => ?_) (fun hg35 => ?_) | refine WL.cases (d := 35) rfl (fun hg35 => ?_) (fun hg35 => ?_)
          · -- t35 = T
            refine WL.goff rfl rfl (by decide) ?_
            refine WL.goff rfl rfl (by decide) ?_
            refine WL.goff rfl rfl (by decide) ?_
            refine WL.goff rfl rfl (by decide) ?_
            refine WL.val (Y.pick rfl rfl) (by decide) ?_
            refine WL.nil ⟨⟨_, rfl, ?_⟩, rfl, (by repeat (first | exact Fr.le.refl | refine Fr.le.push rfl ?_))⟩
            first | (simp only [*, Int.natCast_inj, Bool.not_eq_true', decide_eq_false_iff_not, decide_eq_true_eq, not_true_eq_false, not_false_eq_true, true_and, false_and, and_true, and_false, false_or, or_false, true_or, or_true, iff_true, true_iff, iff_false, false_iff]; done) | (simp_all; done) | (refine congrArg Value.bool (Bool.eq_iff_iff.2 ?_); simp_all; done) | (simp_all; omega)
          · -- t35 = F
            refine WL.gval rfl rfl (Y.move rfl) (by decide) ?_
            refine WL.gval rfl rfl (Y.move rfl) (by decide) ?_
            refine WL.gval rfl rfl (Y.len_string Try.underlying9 rfl) (by decide) ?_
            refine WL.gval rfl rfl (Y.eql rfl rfl) (by decide) ?_
            refine WL.val (Y.pick rfl rfl) (by decide) ?_
            refine WL.nil ⟨⟨_, rfl, ?_⟩, rfl, (by repeat (first | exact Fr.le.refl | refine Fr.le.push rfl ?_))⟩
            first | (simp only [*, Int.natCast_inj, Bool.not_eq_true', decide_eq_false_iff_not, decide_eq_true_eq, not_true_eq_false, not_false_eq_true, true_and, false_and, and_true, and_false, false_or, or_false, true_or, or_true, iff_true, true_iff, iff_false, false_iff]; done) | (simp_all; done) | (refine congrArg Value.bool (Bool.eq_iff_iff.2 ?_); simp_all; done) | (simp_all; omega)
        first | refine CW.condD rfl (fun ht16 => ?_) (fun ht16 => ?_) | refine CW.condND rfl (fun ht16 => ?_) (fun ht16 => ?_) | refine CW.condN rfl (fun ht16 => ?_) (fun ht16 => ?_) | refine CW.cond rfl (fun ht16 => ?_) (fun ht16 => ?_)
        · -- then
          refine CW.seq fun K17 hK17 => ?_
          refine CW.region ?_
          refine WL.val (Y.move rfl) (by decide) ?_
          refine WL.val (Y.move rfl) (by decide) ?_
          refine WL.val (Y.indexAddrN Try.underlying117 rfl rfl sz0_sint (by omega)) (by decide) ?_
          refine WL.val (Y.load1 Try.underlying84 rfl (by have h9 := (hR.ext (Chg.refl)).tab (i := i) (by omega); rw [hgi] at h9; exact h9.cell0) rfl) (by decide) ?_
          refine WL.val (Y.move rfl) (by decide) ?_
          refine WL.val (Y.move rfl) (by decide) ?_
          refine WL.val (Y.len_string Try.underlying9 rfl) (by decide) ?_
          refine WL.val (Y.move rfl) (by decide) ?_
          refine WL.val (Y.sub rfl rfl ⟨by omega, by omega⟩) (by decide) ?_
          refine WL.val (Y.move rfl) (by decide) ?_
          refine WL.val (Y.len_string Try.underlying9 rfl) (by decide) ?_
          refine WL.val (Y.add rfl rfl ⟨by omega, by omega⟩) (by decide) ?_
          refine WL.val (Y.move rfl) (by decide) ?_
          refine WL.val (Y.sub rfl rfl ⟨by omega, by omega⟩) (by decide) ?_
          refine WL.val (Y.indexAddrN Try.underlying84 rfl rfl sz0_int (by omega)) (by decide) ?_
          refine WL.storeC (i := j) rfl rfl rfl rfl rfl (by kernel_rfl) hC ((by rw [tabL_length]; omega)) (fun w6 hc6 hB6_ => ?_)
          have hz6 := hc6.size; have hE := hE.step hc6 (fun k h => by omega)
          rw [tabL_set] at hB6_
          have hR := hR.chg hc6 (fun h => hne h.symm)
          have hRows := hRows.chg hc6 (fun q _ h2 h => by omega)
          refine WL.nil ?_
          refine hK17 _ _ ?_; try clear hK17 K17
          refine CW.exit ?_
          exact ⟨_, (by repeat (first | exact Fr.le.nil | refine Fr.le.cons rfl ?_ | refine Fr.le.cons (by show some (Value.int .i64 _) = some (Value.int .i64 _); congr 2; dsimp only; omega) ?_)), hR, hB6_, hRows, hD.put (by
            congr 1
            have ht : (i : Int) = ((bs a).size : Int) ∨ (j : Int) = ((bs b).size : Int) := by assumption
            rcases ht with h | h
            · rw [List.drop_of_length_le (l := a) (by omega), cst_nil, List.length_drop]; omega
            · rw [List.drop_of_length_le (l := b) (by omega), cst_end, List.length_drop]; omega), hE⟩
     
        refine CW.skip ?_
        refine hK15 _ _ ?_; try clear hK15 K15
        refine CW.seq fun K18 hK18 => ?_
        obtain ⟨q1, hq1, hq1R, hq1l, hQ⟩ := hRows (i + 1) (Nat.le_refl _) (by omega)
        have hc10 := cst_le (a.drop (i + 1)) (b.drop j)
        have hc01 := cst_le (a.drop i) (b.drop (j + 1))
        rw [List.length_drop, List.length_drop] at hc10 hc01
        refine CW.head 24 (by kernel_rfl) (by kernel_rfl) fun w7 hx7 => ?_
        skip; have hz7 := hx7.size; have hE := hE.thenExt hx7
        refine HL.val (Y.move rfl) (by decide) ?_
        refine HL.val (Y.move rfl) (by decide) ?_
        refine HL.val (Y.indexAddrN Try.underlying117 rfl rfl sz0_sint (by omega)) (by decide) ?_
        refine HL.val (Y.load1 Try.underlying84 rfl (by have h9 := (hR.ext (hx7)).tab (i := i) (by omega); rw [hgi] at h9; exact h9.cell0) rfl) (by decide) ?_
        refine HL.val (Y.move rfl) (by decide) ?_
        refine HL.val (Y.move rfl) (by decide) ?_
        refine HL.val (Y.move rfl) (by decide) ?_
        refine HL.val (Y.add rfl rfl ⟨by omega, by omega⟩) (by decide) ?_
        refine HL.val (Y.indexAddrN Try.underlying117 rfl rfl sz0_sint (by omega) (i := i + 1)) (by decide) ?_
        refine HL.val (Y.load1 Try.underlying84 rfl (by have h9 := (hR.ext (hx7)).tab (i := i + 1) (by omega); rw [hq1] at h9; exact h9.cell0) rfl) (by decide) ?_
        refine HL.val (Y.move rfl) (by decide) ?_
        refine HL.val (Y.indexAddrN Try.underlying84 rfl rfl sz0_int (by omega)) (by decide) ?_
        refine HL.val (Y.load1 Try.underlying3 rfl ((hQ.ext hx7).tab (i := j) (by omega)).cell0 rfl) (by decide) ?_
        refine HL.val (Y.move rfl) (by decide) ?_
        refine HL.val (Y.move rfl) (by decide) ?_
        refine HL.val (Y.indexAddrN Try.underlying117 rfl rfl sz0_sint (by omega)) (by decide) ?_
        refine HL.val (Y.load1 Try.underlying84 rfl (by have h9 := (hR.ext (hx7)).tab (i := i) (by omega); rw [hgi] at h9; exact h9.cell0) rfl) (by decide) ?_
        refine HL.val (Y.move rfl) (by decide) ?_
        refine HL.val (Y.add rfl rfl ⟨by omega, by omega⟩) (by decide) ?_
        refine HL.val (Y.indexAddrN Try.underlying84 rfl rfl sz0_int (by omega) (i := j + 1)) (by decide) ?_
        refine HL.val (Y.load1 Try.underlying3 rfl (by have h9 := (hC.ext hx7).tab (i := j + 1) (by omega); rw [hD (j + 1) (Nat.le_refl _) (by omega)] at h9; exact h9.cell0) rfl) (by decide) ?_
        refine HL.val (Y.minN rfl rfl) (by decide) ?_
        refine HL.val (Y.add rfl rfl ⟨by omega, by omega⟩) (by decide) ?_
        refine HL.val (Y.indexAddrN Try.underlying84 rfl rfl sz0_int (by omega)) (by decide) ?_
        refine HL.nil ?_
        refine WL.storeC (i := j) rfl rfl rfl rfl rfl (by kernel_rfl) (hC.ext hx7) ((by rw [tabL_length]; omega)) (fun w8 hc8 hB8_ => ?_)
        have hz8 := hc8.size; have hE := hE.step hc8 (fun k h => by omega)
        rw [tabL_set] at hB8_
        have hR := (hR.ext hx7).chg hc8 (fun h => hne h.symm)
        have hRows := (hRows.ext hx7).chg hc8 (fun q _ h2 h => by omega)
        have hQ := (hQ.ext hx7).chg hc8 (fun h => by omega)
        have hC := hB8_
        refine WL.nil ?_
        refine hK18 _ _ ?_; try clear hK18 K18
        refine CW.seq fun K19 hK19 => ?_
        refine CW.quiet (fun wq => Ext w8 wq) (by kernel_rfl) (by kernel_rfl) Chg.drew ?_
        refine QL.val (fun wq hq => Y.move rfl) (by decide) ?_
        refine QL.val (fun wq hq => Y.move rfl) (by decide) ?_
        refine QL.val (fun wq hq => Y.index_string (i := i) (s := bs a) Try.underlying9 rfl rfl (by omega)) (by decide) ?_
        refine QL.val (fun wq hq => Y.move rfl) (by decide) ?_
        refine QL.val (fun wq hq => Y.move rfl) (by decide) ?_
        refine QL.val (fun wq hq => Y.index_string (i := j) (s := bs b) Try.underlying9 rfl rfl (by omega)) (by decide) ?_
        refine QL.val (fun wq hq => Y.eql rfl rfl) (by decide) ?_
        refine QL.nil fun w9 hx9 => ?_
        have hz9 := hx9.size
        have hE := hE.thenExt hx9
        refine hK19 _ _ ?_; try clear hK19 K19
        first | refine CW.condD rfl (fun ht20 => ?_) (fun ht20 => ?_) | refine CW.condND rfl (fun ht20 => ?_) (fun ht20 => ?_) | refine CW.condN rfl (fun ht20 => ?_) (fun ht20 => ?_) | refine CW.cond rfl (fun ht20 => ?_) (fun ht20 => ?_)
        · -- then
          have heq : a[i]'(by omega) = b[j]'(by omega) := by
            have h9 : ((a[i]'(by omega)).toNat : Int) = ((b[j]'(by omega)).toNat : Int) := by assumption
            exact UInt8.toNat_inj.1 (by omega)
          refine CW.head 15 (by kernel_rfl) (by kernel_rfl) fun w10 hx10 => ?_
          skip; have hz10 := hx10.size; have hE := hE.thenExt hx10
          refine HL.val (Y.move rfl) (by decide) ?_
          refine HL.val (Y.move rfl) (by decide) ?_
          refine HL.val (Y.indexAddrN Try.underlying117 rfl rfl sz0_sint (by omega)) (by decide) ?_
          refine HL.val (Y.load1 Try.underlying84 rfl (by have h9 := (hR.ext (hx9.thenExt hx10)).tab (i := i) (by omega); rw [hgi] at h9; exact h9.cell0) rfl) (by decide) ?_
          refine HL.val (Y.move rfl) (by decide) ?_
          refine HL.val (Y.move rfl) (by decide) ?_
          refine HL.val (Y.move rfl) (by decide) ?_
          refine HL.val (Y.add rfl rfl ⟨by omega, by omega⟩) (by decide) ?_
          refine HL.val (Y.indexAddrN Try.underlying117 rfl rfl sz0_sint (by omega) (i := i + 1)) (by decide) ?_
          refine HL.val (Y.load1 Try.underlying84 rfl (by have h9 := (hR.ext (hx9.thenExt hx10)).tab (i := i + 1) (by omega); rw [hq1] at h9; exact h9.cell0) rfl) (by decide) ?_
          refine HL.val (Y.move rfl) (by decide) ?_
          refine HL.val (Y.add rfl rfl ⟨by omega, by omega⟩) (by decide) ?_
          refine HL.val (Y.indexAddrN Try.underlying84 rfl rfl sz0_int (by omega) (i := j + 1)) (by decide) ?_
          refine HL.val (Y.load1 Try.underlying3 rfl ((hQ.ext (hx9.thenExt hx10)).tab (i := j + 1) (by omega)).cell0 rfl) (by decide) ?_
          refine HL.val (Y.indexAddrN Try.underlying84 rfl rfl sz0_int (by omega)) (by decide) ?_
          refine HL.nil ?_
          refine WL.storeC (i := j) rfl rfl rfl rfl rfl (by kernel_rfl) (hC.ext (hx9.thenExt hx10)) ((by rw [tabL_length]; omega)) (fun w11 hc11 hB11_ => ?_)
          have hz11 := hc11.size; have hE := hE.step hc11 (fun k h => by omega)
          rw [tabL_set] at hB11_
          have hR := (hR.ext (hx9.thenExt hx10)).chg hc11 (fun h => hne h.symm)
          have hRows := (hRows.ext (hx9.thenExt hx10)).chg hc11 (fun q _ h2 h => by omega)
          refine WL.nil ?_
          exact ⟨_, (by repeat (first | exact Fr.le.nil | refine Fr.le.cons rfl ?_ | refine Fr.le.cons (by show some (Value.int .i64 _) = some (Value.int .i64 _); congr 2; dsimp only; omega) ?_)), hR, hB11_, hRows, hD.skip.put (by rw [drop_cons (l := a) (i := i) (by omega), drop_cons (l := b) (i := j) (by omega), cst_cons, if_pos heq]), hE⟩
     
        refine CW.skip ?_
        have heq : ¬ a[i]'(by omega) = b[j]'(by omega) := fun h => by
          have h9 : ¬ ((a[i]'(by omega)).toNat : Int) = ((b[j]'(by omega)).toNat : Int) := by assumption
          exact h9 (by rw [h])
        exact ⟨_, (by repeat (first | exact Fr.le.nil | refine Fr.le.cons rfl ?_ | refine Fr.le.cons (by show some (Value.int .i64 _) = some (Value.int .i64 _); congr 2; dsimp only; omega) ?_)), hR.ext hx9, hC.ext hx9, hRows.ext hx9, hD.put (by
          congr 1
          rw [drop_cons (l := a) (i := i) (by omega), drop_cons (l := b) (i := j) (by omega), cst_cons, if_neg heq, ← drop_cons (l := a) (i := i) (by omega), ← drop_cons (l := b) (i := j) (by omega)]
          omega), hE⟩
      rintro u w12 hj12
      obtain ⟨hR, hC, hRows, hD, hE⟩ := hj12
      refine CW.region ?_
      refine WL.val (Y.move rfl) (by decide) ?_
      refine WL.val (Y.sub rfl rfl ⟨by omega, by omega⟩) (by decide) ?_
      refine WL.val (Y.assign rfl) (by decide) ?_
      refine WL.nil ?_
      exact ⟨(j, u), (by show j < j + 1; omega), (by repeat (first | exact Fr.le.nil | refine Fr.le.cons rfl ?_ | refine Fr.le.cons (by show some (Value.int .i64 _) = some (Value.int .i64 _); congr 2; dsimp only; omega) ?_)), (by show j ≤ (bs b).size + 1; omega), hR, hC, hRows, hD, hE⟩
 
    refine CW.exit ?_
    refine hK8 _ _ ?_; try clear hK8 K8
    refine CW.region ?_
    refine WL.val (Y.move rfl) (by decide) ?_
    refine WL.val (Y.sub rfl rfl ⟨by omega, by omega⟩) (by decide) ?_
    refine WL.val (Y.assign rfl) (by decide) ?_
    refine WL.nil ?_
    have hy0 : y = 0 := by omega
    subst hy0
    have hzz := hltC
    refine ⟨(i, g2), (by show i < i + 1; omega), (by repeat (first | exact Fr.le.nil | refine Fr.le.cons rfl ?_ | refine Fr.le.cons (by show some (Value.int .i64 _) = some (Value.int .i64 _); congr 2; dsimp only; omega) ?_)), (by show i ≤ (bs a).size + 1; omega), hR, (fun i1 h1 h2 => ?_), hE⟩
    by_cases e : i1 = i
    · subst e
      refine ⟨cur, hgi, hne, hltC, ?_⟩
      have e2 : tabL ((bs b).size + 1) f = tabL ((bs b).size + 1) (fun j => .int .i64 (cst (a.drop i1) (b.drop j) : Int)) := List.map_congr_left fun j hj => hD j (Nat.zero_le _) (by have := List.mem_range.1 hj; omega)
      rw [← e2]; exact hC
    · have h1 : i ≤ i1 := h1
      exact (hRows.grow (l2 := w5.heap.size) (by omega)) i1 (by omega) h2
  refine CW.exit ?_
  refine hK3 _ _ ?_; try clear hK3 K3
  refine CW.seq fun K21 hK21 => ?_
  refine CW.region ?_
  refine WL.val (Y.move rfl) (by decide) ?_
  refine WL.val (Y.assign rfl) (by decide) ?_
  refine WL.nil ?_
  refine hK21 _ _ ?_; try clear hK21 K21
  refine CW.ret ⟨_, rfl, ?_⟩
  have hx0 : x = 0 := by omega
  subst hx0
  refine ⟨⟨⟨R, 0, none⟩, (bs a).size + 1, by rw [hsa], fun i hi => ?_⟩, hE⟩
  obtain ⟨q, e, _, _, hQ⟩ := hRows i (Nat.zero_le _) (by omega)
  have h9 := hR.tab (i := i) (by omega)
  rw [e] at h9
  rw [hsb] at h9 hQ
  exact ⟨⟨q, 0, none⟩, b.length + 1, h9, fun j hj => hQ.tab hj⟩
end Go.Proofs.Ytmndofgagngcgaa
