/- A commit's references: commit.Refs with its closure and its sort, the reference's Refs, walked. No condition. -/
import Derived.Test.YtfbagecopapfhaaSh
import Derived.Test.YtfbagecopapfhaaSf
set_option linter.unusedSimpArgs false
set_option linter.unusedVariables false
namespace Go.Proofs.Ytfbagecopapfhaa
open Go.RowKit Go.Fw Go.Pl Go.Sort
theorem keep_iff0 (r : RefD) : (¬ r = RefD.zero ∧ ¬ r.own = true ∧ refB r = true) ↔ refKind r = 2 := by
  rw [← keep_iff]; simp [rootB]
abbrev TCo : TypeId := 31
instance : Inhabited Dig := ⟨Dig.zero⟩

theorem refs1_any (a b : Dig) (w : World) : Calls Try.prog 49 #[digV a, digV b] w (Ret fun v w' => v = .int .i64 (cfD a b) ∧ Ext w w') := by
  refine calls_of_CW 8 [4] [(0, digV a), (1, digV b)] Try.func49 rfl rfl rfl (by simp) args2 ?_
  have hE : Ext w w := Chg.refl
  refine CW.seq fun K1 hK1 => ?_
  refine CW.region ?_   -- region 0
  refine WL.box rfl rfl (by decide) fun g2 w1 hx1 hg2 hB2 => ?_   -- t2 := box 51 t0
  have hlt2 := hB2.lt; have hz1 := hx1.size
  have hM2 := hB2.mem; have hz1 := hx1.size; have hE := hE.thenExt hx1
  refine WL.box rfl rfl (by decide) fun g3 w2 hx2 hg3 hB3 => ?_   -- t3 := box 51 t1
  have hlt3 := hB3.lt; have hz2 := hx2.size
  have hM3 := hB3.mem; have hz2 := hx2.size; have hE := hE.thenExt hx2; have hB2 := hB2.ext hx2
  refine WL.val (Y.assign rfl) (by decide) ?_   -- t4 := assign c(0:i64)
  refine WL.nil ?_
  refine hK1 _ _ ?_; try clear hK1 K1
  refine CW.seq fun K2 hK2 => ?_
  refine CW.seq fun K3 hK3 => ?_
  refine CW.region ?_   -- region 1
  refine WL.val (Y.load Try.underlying51 rfl hB2.mem (sz_apiDigest _) rfl) (by decide) ?_   -- t5 := load 51 t2
  refine WL.val (Y.load Try.underlying51 rfl hB3.mem (sz_apiDigest _) rfl) (by decide) ?_   -- t6 := load 51 t3
  refine WL.call Try.func35 rfl rfl rfl (less_any _ _ _) (by simp) ?_; rintro v w3 ⟨rfl, hx3⟩; have hz3 := hx3.size; have hE := hE.thenExt hx3; have hB2 := hB2.ext hx3; have hB3 := hB3.ext hx3   -- t7 := call F35(t5, t6) : 51,51
  refine WL.nil ?_
  refine hK3 _ _ ?_; try clear hK3 K3
  first | refine CW.condD rfl (fun ht4 => ?_) (fun ht4 => ?_) | refine CW.condND rfl (fun ht4 => ?_) (fun ht4 => ?_) | refine CW.condN rfl (fun ht4 => ?_) (fun ht4 => ?_) | refine CW.cond rfl (fun ht4 => ?_) (fun ht4 => ?_)
  · -- then
    refine CW.seq fun K5 hK5 => ?_
    refine CW.region ?_   -- region 2
    refine WL.val (Y.assign rfl) (by decide) ?_   -- t4 := assign c(-1:i64)
    refine WL.nil ?_
    refine hK5 _ _ ?_; try clear hK5 K5
    refine CW.ret ⟨_, rfl, ?_⟩
    exact ⟨by rw [cfD, if_pos (by assumption)], hE⟩
  -- else
  refine CW.skip ?_
  refine hK2 _ _ ?_; try clear hK2 K2
  refine CW.seq fun K6 hK6 => ?_
  refine CW.region ?_   -- region 3
  refine WL.val (Y.assign rfl) (by decide) ?_   -- t4 := assign c(1:i64)
  refine WL.nil ?_
  refine hK6 _ _ ?_; try clear hK6 K6
  refine CW.ret ⟨_, rfl, ?_⟩
  exact ⟨by rw [cfD, if_neg (by simp [*])], hE⟩
theorem sort_any (A : Option Addr) (m c : Nat) (l : List Dig) (w : World) (hO : Own w TDg 32 (.slice A m c) (flatD l)) (hs : l.length < 4611686018427387904) : Calls Try.prog 48 #[.slice A m c, .func (.func 49) #[] #[]] w (Ret fun v w' => v = .tuple #[] ∧ Own w' TDg 32 (.slice A m c) (flatD (sortedD l)) ∧ Chg (fun k => (Value.slice A m c).ownBlock = some k) w w') := by
  obtain ⟨hlen, hmc, hcm⟩ := hO.len digC_length (by decide)
  unfold maxLen at hcm
  by_cases h0 : l = []
  · subst h0
    simp at hlen
    subst hlen
    refine (AnyF.slices_SortFunc_none sortD A c _ w).mono fun e w' h => ?_
    obtain ⟨rfl, rfl⟩ := h
    exact ⟨rfl, by unfold sortedD; rw [List.mergeSort_nil]; exact hO, Chg.refl⟩
  · obtain ⟨g, rfl, hg⟩ := hO.head (by
      intro h
      have := congrArg List.length h
      rw [flat_length digC_length, List.length_nil] at this
      cases l with
      | nil => exact h0 rfl
      | cons _ _ => simp at this)
    obtain ⟨hH, hblk⟩ := hO.holds (by decide) digC_length
    have hcmp : CmpLays Try.prog 49 #[] digC 32 cfD g 0 l.toArray.size w := fun mm os dk _ x y => by
      rw [Array.append_empty]
      refine (refs1_any x y _).mono fun e w' h => ?_
      cases e with
      | returned v => obtain ⟨rfl, hx⟩ := h; exact ⟨rfl, hx.grown⟩
      | panicked ch => exact h.elim
      | outgrown => exact h.elim
    have hcon := AnyQ.slices_SortFunc_total sortD 32 Try.isAgg51 Try.sizeOf51 digC digC_length (fun x v hv => one_digC v hv) cfD swo_cfD 49 #[] g 0 c l.toArray w (enters_of Try.func49 (by kernel_rfl) rfl) hcmp hH hblk (by simpa using hs) (fun x y h k => by rw [lt_cfD] at h k; exact less_tri h k)
    subst hlen
    refine Calls.mono (R := fun e w' => e = .returned (.tuple #[]) ∧ ∃ n os, w' = sortWorldK digC 32 w g 0 n (l.toArray.toList.mergeSort fun x y => !(ltOf cfD) y x).toArray os) hcon fun e w' h => ?_
    obtain ⟨rfl, n, os, rfl⟩ := h
    obtain ⟨h1, h2⟩ := hO.sorted (l' := sortedD l) (by decide) digC_length (sortedD_length l) n os
    refine ⟨rfl, h1, h2.mono fun b _ hb => by rw [hb]; rfl⟩

set_option maxRecDepth 20000 in
theorem refs_any (u : Value) (c : ComD) (w : World) (hc : Com w u c) (hp : c.ops.length * 32 ≤ 140737488351232) : Calls Try.prog 27 #[u] w (Ret fun v w' => Own w' TDg 32 v (flatD (sortedD (gathC c.ops))) ∧ (∀ k, v.ownBlock = some k → w.heap.size ≤ k) ∧ Ext w w') := by
  obtain ⟨pv, ov, rfl, hpp, hoo, hau, hno⟩ := hc
  obtain ⟨Ap, cp, rfl, _, _⟩ := hpp.lens
  obtain ⟨Ao, co, rfl, hco1, hco2⟩ := hoo.lens
  unfold maxLen at hco2
  refine calls_of_CW 46 [2] [(0, .agg (comC (.slice Ap c.parents.length cp) c.author c.note (.slice Ao c.ops.length co)).toArray)] Try.func27 rfl rfl rfl (by simp) args1 ?_
  have hE : Ext w w := Chg.refl
  refine CW.seq fun K1 hK1 => ?_
  refine CW.region ?_   -- region 0
  refine WL.box rfl rfl (by decide) fun g1 w1 hx1 hg1 hB1 => ?_   -- t1 := box 31 t0
  have hlt1 := hB1.lt; have hz1 := hx1.size
  have hM1 := hB1.mem; have hz1 := hx1.size; have hE := hE.thenExt hx1
  refine WL.val (Y.assign rfl) (by decide) ?_   -- t2 := assign c(nilslice)
  refine WL.nil ?_
  refine hK1 _ _ ?_; try clear hK1 K1
  refine CW.seq fun K2 hK2 => ?_
  refine CW.region ?_   -- region 1
  refine WL.val (Y.assign rfl) (by decide) ?_   -- t3 := assign c(nilslice)
  refine WL.nil ?_
  refine hK2 _ _ ?_; try clear hK2 K2
  refine CW.seq fun K3 hK3 => ?_
  refine CW.seq fun K4 hK4 => ?_
  refine CW.region ?_   -- region 2
  refine WL.val (Y.fieldAddr fo_apiCommit3 rfl) (by decide) ?_   -- t6 := fieldAddr 31 t1 3
  refine WL.val (Y.load1 Try.underlying24 rfl hB1.mem.com3 rfl) (by decide) ?_   -- t7 := load 24 t6
  refine WL.val (Y.len_slice Try.underlying24 rfl) (by decide) ?_   -- t8 := call len(t7) : 24
  refine WL.val (Y.move rfl) (by decide) ?_   -- t9 := move c(0:i64)
  refine WL.nil ?_
  refine hK4 _ _ ?_; try clear hK4 K4
  refine CW.block ?_   -- block 0
  refine CW.loop (X := Nat × Value) (fun x => [(1, .pointer (some ⟨g1, 0, none⟩)), (3, x.2), (7, .slice Ao c.ops.length co), (8, .int .i64 (c.ops.length : Int)), (9, .int .i64 (x.1 : Int))]) (fun x w0 => x.1 ≤ c.ops.length ∧ Own w0 TDg 32 x.2 (flatD (gathC (c.ops.take x.1))) ∧ (∀ k, x.2.ownBlock = some k → w1.heap.size ≤ k) ∧ Ext w w0 ∧ Blk w0 g1 TCo (comC (.slice Ap c.parents.length cp) c.author c.note (.slice Ao c.ops.length co)) ∧ w1.heap.size ≤ w0.heap.size) (fun x => c.ops.length - x.1) (0, .slice none 0 0) (by repeat (first | exact Fr.le.nil | refine Fr.le.cons rfl ?_)) ⟨Nat.zero_le _, Own.nil, (fun k h => by simp [Value.ownBlock] at h), hE, hB1, Nat.le_refl _⟩ ?_
  intro x w2 hl2
  obtain ⟨i, u⟩ := x
  dsimp only at hl2 ⊢
  obtain ⟨hi, hO, hfu, hE, hB1, hzz⟩ := hl2
  obtain ⟨B, mb, cb, rfl⟩ := hO.lens
  have hlo := hO.lt
  have hlen : (gathC (c.ops.take i)).length ≤ i := by have := add_len (keep := (fun o => decide (refKind o.at_ = 2))) (c.ops.take i) []; rw [List.length_take, List.length_nil] at this; unfold gathC; omega
  refine CW.seq fun K5 hK5 => ?_
  refine CW.region ?_   -- region 3
  refine WL.val (Y.lss rfl rfl) (by decide) ?_   -- t10 := binOp lss 3 t9 t8 3
  refine WL.nil ?_
  refine hK5 _ _ ?_; try clear hK5 K5
  refine CW.seq fun K6 hK6 => ?_
  first | refine CW.condD rfl (fun ht7 => ?_) (fun ht7 => ?_) | refine CW.condND rfl (fun ht7 => ?_) (fun ht7 => ?_) | refine CW.condN rfl (fun ht7 => ?_) (fun ht7 => ?_) | refine CW.cond rfl (fun ht7 => ?_) (fun ht7 => ?_)
  · -- then
    refine CW.skip ?_
    refine hK6 _ _ ?_; try clear hK6 K6
    obtain ⟨o, ho⟩ : ∃ o, c.ops[i]? = some o := ⟨_, List.getElem?_eq_getElem (by omega)⟩
    obtain ⟨a, rfl, hma⟩ := hoo.at ho
    refine CW.seq_to (X := Value) (fun u => [(1, .pointer (some ⟨g1, 0, none⟩)), (3, u), (7, .slice (some a) c.ops.length co), (8, .int .i64 (c.ops.length : Int)), (9, .int .i64 (i : Int))]) (fun u w0 => Own w0 TDg 32 u (flatD (addR (fun o => decide (refKind o.at_ = 2)) (gathC (c.ops.take i)) o)) ∧ (∀ k, u.ownBlock = some k → w1.heap.size ≤ k) ∧ Ext w w0 ∧ Blk w0 g1 TCo (comC (.slice Ap c.parents.length cp) c.author c.note (.slice (some a) c.ops.length co)) ∧ w1.heap.size ≤ w0.heap.size) ?_ ?_
    · skip
      refine CW.block ?_   -- block 1
      refine CW.seq fun K9 hK9 => ?_
      refine CW.region ?_   -- region 4
      refine WL.val (Y.indexAddrN Try.underlying24 rfl rfl sz0_apiOp (by omega)) (by decide) ?_   -- t11 := indexAddr 24 t7 t9
      refine WL.val (Y.load Try.underlying57 rfl (hma.ext hE) (sz_apiOp _) rfl) (by decide) ?_   -- t12 := load 57 t11
      refine as_apiOp rfl (by simp) (by decide) fun g5 w3 hx3 hg5 hB5 => ?_   -- alloc 57; store 57 t5 t12
      have hlt5 := hB5.lt; have hz3 := hx3.size
      have hM5 := hB5.mem; have hz3 := hx3.size; have hE := hE.thenExt hx3; have hB1 := hB1.ext hx3
      refine WL.nil ?_
      refine hK9 _ _ ?_; try clear hK9 K9
      refine CW.seq_testE 35 ((¬ o.at_ = RefD.zero ∧ ¬ o.at_.own = true ∧ refB o.at_ = true) ∧ ¬ o.at_.c ∈ gathC (c.ops.take i)) ?_ ?_
      · refine CW.region ?_
        refine WL.val (Y.fieldAddr fo_apiOp2 rfl) (by decide) ?_   -- t13 := fieldAddr 57 t5 2
        refine WL.val (Y.load Try.underlying55 rfl hB5.mem.op2 (sz_apiRef _) rfl) (by decide) ?_   -- t14 := load 55 t13
        refine WL.call Try.func33 rfl rfl rfl (root_any _ _) (by simp) ?_; rintro v w4 ⟨rfl, hx4⟩; have hz4 := hx4.size; have hE := hE.thenExt hx4; have hB1 := hB1.ext hx4; have hB5 := hB5.ext hx4   -- t15 := call F33(t14) : 55
        refine WL.val (Y.not rfl) (by decide) ?_   -- t16 := unOp not 4 t15
        refine WL.val (Y.move rfl) (by decide) ?_   -- t17 := move t16
        first | refine WL.casesD (d := 17) rfl (fun hg17 => ?_) (fun hg17 => ?_) | refine WL.casesND (d := 17) rfl (fun hg17 => ?_) (fun hg17 => ?_) | refine WL.cases (d := 17) rfl (fun hg17 => ?_) (fun hg17 => ?_)
        · -- t17 = T
          refine WL.gval rfl rfl (Y.fieldAddr fo_apiOp2 rfl) (by decide) ?_   -- t18 := fieldAddr 57 t5 2 [if 4=true]
          refine WL.gval rfl rfl (Y.fieldAddr fo_apiRef0 rfl) (by decide) ?_   -- t19 := fieldAddr 55 t18 0 [if 4=true]
          refine WL.gval rfl rfl (Y.load1 Try.underlying4 rfl hB5.mem.op2.ref0 rfl) (by decide) ?_   -- t20 := load 4 t19 [if 4=true]
          refine WL.gval rfl rfl (Y.not rfl) (by decide) ?_   -- t21 := unOp not 4 t20 [if 4=true]
          refine WL.val (Y.pick rfl rfl) (by decide) ?_   -- t22 := pick t17 t21 c(false)
          refine WL.val (Y.move rfl) (by decide) ?_   -- t23 := move t22
          first | refine WL.casesD (d := 23) rfl (fun hg23 => ?_) (fun hg23 => ?_) | refine WL.casesND (d := 23) rfl (fun hg23 => ?_) (fun hg23 => ?_) | refine WL.cases (d := 23) rfl (fun hg23 => ?_) (fun hg23 => ?_)
          · -- t23 = T
            refine WL.gval rfl rfl (Y.fieldAddr fo_apiOp2 rfl) (by decide) ?_   -- t24 := fieldAddr 57 t5 2 [if 10=true]
            refine WL.gval rfl rfl (Y.load Try.underlying55 rfl hB5.mem.op2 (sz_apiRef _) rfl) (by decide) ?_   -- t25 := load 55 t24 [if 10=true]
            refine WL.gcall rfl rfl Try.func32 rfl rfl rfl (ref_any _ _) (by decide) ?_; rintro v w5 ⟨rfl, hx5⟩; have hz5 := hx5.size; have hE := hE.thenExt hx5; have hB1 := hB1.ext hx5; have hB5 := hB5.ext hx5   -- t26 := call F32(t25) : 55 [if 10=true]
            refine WL.val (Y.pick rfl rfl) (by decide) ?_   -- t27 := pick t23 t26 c(false)
            refine WL.val (Y.move rfl) (by decide) ?_   -- t28 := move t27
            first | refine WL.casesD (d := 28) rfl (fun hg28 => ?_) (fun hg28 => ?_) | refine WL.casesND (d := 28) rfl (fun hg28 => ?_) (fun hg28 => ?_) | refine WL.cases (d := 28) rfl (fun hg28 => ?_) (fun hg28 => ?_)
            · -- t28 = T
              refine WL.gval rfl rfl (Y.move rfl) (by decide) ?_   -- t29 := move t3 [if 15=true]
              refine WL.gval rfl rfl (Y.fieldAddr fo_apiOp2 rfl) (by decide) ?_   -- t30 := fieldAddr 57 t5 2 [if 15=true]
              refine WL.gval rfl rfl (Y.fieldAddr fo_apiRef1 rfl) (by decide) ?_   -- t31 := fieldAddr 55 t30 1 [if 15=true]
              refine WL.gval rfl rfl (Y.load Try.underlying51 rfl hB5.mem.op2.ref1 (sz_apiDigest _) rfl) (by decide) ?_   -- t32 := load 51 t31 [if 15=true]
              refine WL.gcall rfl rfl Try.func47 rfl rfl rfl (contains_any _ _ _ _ ((hO.ext ((hx3.thenExt hx4).thenExt hx5)).sl digC_length (by decide))) (by decide) ?_; rintro v w6 ⟨rfl, hx6⟩; have hz6 := hx6.size; have hE := hE.thenExt hx6; have hB1 := hB1.ext hx6; have hB5 := hB5.ext hx6   -- t33 := call F47(t29, t32) : 29,51 [if 15=true]
              refine WL.gval rfl rfl (Y.not rfl) (by decide) ?_   -- t34 := unOp not 4 t33 [if 15=true]
              refine WL.val (Y.pick rfl rfl) (by decide) ?_   -- t35 := pick t28 t34 c(false)
              refine WL.nil ⟨⟨_, rfl, ?_⟩, ((hx4.thenExt hx5).thenExt hx6), (by repeat (first | exact Fr.le.refl | refine Fr.le.push rfl ?_))⟩
              first | (simp only [*, Bool.not_eq_true', decide_eq_false_iff_not, decide_eq_true_eq, not_true_eq_false, not_false_eq_true, true_and, false_and, and_true, and_false, false_or, or_false, true_or, or_true, iff_true, true_iff, iff_false, false_iff]; done) | (simp_all; done) | (refine congrArg Value.bool (Bool.eq_iff_iff.2 ?_); simp_all; done) | (simp_all; omega)
            · -- t28 = F
              refine WL.goff rfl rfl (by decide) ?_   -- t29 := move t3 [if 15=true]
              refine WL.goff rfl rfl (by decide) ?_   -- t30 := fieldAddr 57 t5 2 [if 15=true]
              refine WL.goff rfl rfl (by decide) ?_   -- t31 := fieldAddr 55 t30 1 [if 15=true]
              refine WL.goff rfl rfl (by decide) ?_   -- t32 := load 51 t31 [if 15=true]
              refine WL.goff rfl rfl (by decide) ?_   -- t33 := call F47(t29, t32) : 29,51 [if 15=true]
              refine WL.goff rfl rfl (by decide) ?_   -- t34 := unOp not 4 t33 [if 15=true]
              refine WL.val (Y.pick rfl rfl) (by decide) ?_   -- t35 := pick t28 t34 c(false)
              refine WL.nil ⟨⟨_, rfl, ?_⟩, (hx4.thenExt hx5), (by repeat (first | exact Fr.le.refl | refine Fr.le.push rfl ?_))⟩
              first | (simp only [*, Bool.not_eq_true', decide_eq_false_iff_not, decide_eq_true_eq, not_true_eq_false, not_false_eq_true, true_and, false_and, and_true, and_false, false_or, or_false, true_or, or_true, iff_true, true_iff, iff_false, false_iff]; done) | (simp_all; done) | (refine congrArg Value.bool (Bool.eq_iff_iff.2 ?_); simp_all; done) | (simp_all; omega)
          · -- t23 = F
            refine WL.goff rfl rfl (by decide) ?_   -- t24 := fieldAddr 57 t5 2 [if 10=true]
            refine WL.goff rfl rfl (by decide) ?_   -- t25 := load 55 t24 [if 10=true]
            refine WL.goff rfl rfl (by decide) ?_   -- t26 := call F32(t25) : 55 [if 10=true]
            refine WL.val (Y.pick rfl rfl) (by decide) ?_   -- t27 := pick t23 t26 c(false)
            refine WL.val (Y.move rfl) (by decide) ?_   -- t28 := move t27
            refine WL.goff rfl rfl (by decide) ?_   -- t29 := move t3 [if 15=true]
            refine WL.goff rfl rfl (by decide) ?_   -- t30 := fieldAddr 57 t5 2 [if 15=true]
            refine WL.goff rfl rfl (by decide) ?_   -- t31 := fieldAddr 55 t30 1 [if 15=true]
            refine WL.goff rfl rfl (by decide) ?_   -- t32 := load 51 t31 [if 15=true]
            refine WL.goff rfl rfl (by decide) ?_   -- t33 := call F47(t29, t32) : 29,51 [if 15=true]
            refine WL.goff rfl rfl (by decide) ?_   -- t34 := unOp not 4 t33 [if 15=true]
            refine WL.val (Y.pick rfl rfl) (by decide) ?_   -- t35 := pick t28 t34 c(false)
            refine WL.nil ⟨⟨_, rfl, ?_⟩, hx4, (by repeat (first | exact Fr.le.refl | refine Fr.le.push rfl ?_))⟩
            first | (simp only [*, Bool.not_eq_true', decide_eq_false_iff_not, decide_eq_true_eq, not_true_eq_false, not_false_eq_true, true_and, false_and, and_true, and_false, false_or, or_false, true_or, or_true, iff_true, true_iff, iff_false, false_iff]; done) | (simp_all; done) | (refine congrArg Value.bool (Bool.eq_iff_iff.2 ?_); simp_all; done) | (simp_all; omega)
        · -- t17 = F
          refine WL.goff rfl rfl (by decide) ?_   -- t18 := fieldAddr 57 t5 2 [if 4=true]
          refine WL.goff rfl rfl (by decide) ?_   -- t19 := fieldAddr 55 t18 0 [if 4=true]
          refine WL.goff rfl rfl (by decide) ?_   -- t20 := load 4 t19 [if 4=true]
          refine WL.goff rfl rfl (by decide) ?_   -- t21 := unOp not 4 t20 [if 4=true]
          refine WL.val (Y.pick rfl rfl) (by decide) ?_   -- t22 := pick t17 t21 c(false)
          refine WL.val (Y.move rfl) (by decide) ?_   -- t23 := move t22
          refine WL.goff rfl rfl (by decide) ?_   -- t24 := fieldAddr 57 t5 2 [if 10=true]
          refine WL.goff rfl rfl (by decide) ?_   -- t25 := load 55 t24 [if 10=true]
          refine WL.goff rfl rfl (by decide) ?_   -- t26 := call F32(t25) : 55 [if 10=true]
          refine WL.val (Y.pick rfl rfl) (by decide) ?_   -- t27 := pick t23 t26 c(false)
          refine WL.val (Y.move rfl) (by decide) ?_   -- t28 := move t27
          refine WL.goff rfl rfl (by decide) ?_   -- t29 := move t3 [if 15=true]
          refine WL.goff rfl rfl (by decide) ?_   -- t30 := fieldAddr 57 t5 2 [if 15=true]
          refine WL.goff rfl rfl (by decide) ?_   -- t31 := fieldAddr 55 t30 1 [if 15=true]
          refine WL.goff rfl rfl (by decide) ?_   -- t32 := load 51 t31 [if 15=true]
          refine WL.goff rfl rfl (by decide) ?_   -- t33 := call F47(t29, t32) : 29,51 [if 15=true]
          refine WL.goff rfl rfl (by decide) ?_   -- t34 := unOp not 4 t33 [if 15=true]
          refine WL.val (Y.pick rfl rfl) (by decide) ?_   -- t35 := pick t28 t34 c(false)
          refine WL.nil ⟨⟨_, rfl, ?_⟩, hx4, (by repeat (first | exact Fr.le.refl | refine Fr.le.push rfl ?_))⟩
          first | (simp only [*, Bool.not_eq_true', decide_eq_false_iff_not, decide_eq_true_eq, not_true_eq_false, not_false_eq_true, true_and, false_and, and_true, and_false, false_or, or_false, true_or, or_true, iff_true, true_iff, iff_false, false_iff]; done) | (simp_all; done) | (refine congrArg Value.bool (Bool.eq_iff_iff.2 ?_); simp_all; done) | (simp_all; omega)
      intro w7 hx7; have hz7 := hx7.size; have hE := hE.thenExt hx7; have hB1 := hB1.ext hx7; have hB5 := hB5.ext hx7
      first | refine CW.condD rfl (fun ht10 => ?_) (fun ht10 => ?_) | refine CW.condND rfl (fun ht10 => ?_) (fun ht10 => ?_) | refine CW.condN rfl (fun ht10 => ?_) (fun ht10 => ?_) | refine CW.cond rfl (fun ht10 => ?_) (fun ht10 => ?_)
      · -- then
        refine CW.region ?_   -- region 6
        refine WL.val (Y.move rfl) (by decide) ?_   -- t36 := move t3
        refine WL.val (Y.fieldAddr fo_apiOp2 rfl) (by decide) ?_   -- t37 := fieldAddr 57 t5 2
        refine WL.val (Y.fieldAddr fo_apiRef1 rfl) (by decide) ?_   -- t38 := fieldAddr 55 t37 1
        refine WL.val (Y.load Try.underlying51 rfl hB5.mem.op2.ref1 (sz_apiDigest _) rfl) (by decide) ?_   -- t39 := load 51 t38
        refine WL.st (St.buildSlice rfl (bs1_dig _)) (by decide) fun v40 w8 hR8 => ?_   -- t40 := buildSlice 29 1 [(0,t39)]
        obtain ⟨g40, rfl, hg40, hB40, hx8⟩ := hR8
        have hz8 := hx8.size
        have hE := hE.thenExt hx8
        have hB1 := hB1.ext hx8
        refine WL.st (St.append Try.underlying29 Try.underlying29 ai_dig rfl rfl (hO.ext ((hx3.thenExt hx7).thenExt hx8)) (Src.one hB40 (digC_length _)) one_digC (by rw [flat_length digC_length]; omega)) (by decide) fun v41 w9 hR9 => ?_   -- t41 := call append(t36, t40) : 29,29
        obtain ⟨hO9, hc9, hf9⟩ := hR9
        have hz9 := hc9.size
        have hE := hE.step hc9 (fun k h => by have := hfu k h; omega)
        have hf9 : ∀ k, v41.ownBlock = some k → w1.heap.size ≤ k := by
          rcases hf9 with h | h
          · intro k hk; rw [h] at hk; exact hfu k hk
          · intro k hk; have := h k hk; omega
        obtain ⟨A9, m9, c9, rfl⟩ := hO9.lens
        have hB1 := hB1.chg hc9 (fun h => by have := hfu _ h; omega)
        refine WL.val (Y.assign rfl) (by decide) ?_   -- t3 := assign t41
        refine WL.nil ?_
        refine ⟨.slice A9 m9 c9, (by repeat (first | exact Fr.le.nil | refine Fr.le.cons rfl ?_)), ?_, hf9, hE, hB1, by omega⟩
        rw [addR, if_pos ⟨by simpa using (keep_iff0 _).1 ht10.1, ht10.2⟩]
        simpa [flatD] using hO9
      -- else
      refine CW.skip ?_
      refine ⟨.slice B mb cb, (by repeat (first | exact Fr.le.nil | refine Fr.le.cons rfl ?_)), ?_, hfu, hE, hB1, by omega⟩
      rw [addR, if_neg (fun h => ht10 ⟨(keep_iff0 _).2 (by simpa using h.1), h.2⟩)]
      exact hO.ext (hx3.thenExt hx7)
    rintro u w10 hj10
    obtain ⟨hO, hfu, hE, hB1, hzz⟩ := hj10
    refine CW.region ?_   -- region 7
    refine WL.val (Y.add rfl rfl ⟨by omega, by omega⟩) (by decide) ?_   -- t42 := binOp add 3 t9 c(1:i64) 3
    refine WL.val (Y.move rfl) (by decide) ?_   -- t9 := move t42
    refine WL.nil ?_
    refine ⟨(i + 1, u), by show c.ops.length - (i + 1) < c.ops.length - i; omega, (by repeat (first | exact Fr.le.nil | refine Fr.le.cons rfl ?_)), by show i + 1 ≤ c.ops.length; omega, ?_, hfu, hE, hB1, hzz⟩
    show Own _ _ _ _ (flatD (gathC (c.ops.take (i + 1))))
    rw [gathC_take ho]
    exact hO
  -- else
  refine CW.exit ?_   -- exit 0
  refine hK3 _ _ ?_; try clear hK3 K3
  refine CW.seq fun K11 hK11 => ?_
  refine CW.region ?_   -- region 8
  refine WL.val (Y.move rfl) (by decide) ?_   -- t43 := move t3
  refine WL.call Try.func48 rfl rfl rfl (sort_any _ _ _ _ _ hO (by omega)) (by simp) ?_; rintro v44 w11 hR11   -- t44 := call F48(t43, F49) : 29,78
  obtain ⟨rfl, hO11, hc11⟩ := hR11
  have hz11 := hc11.size
  have hE := hE.step hc11 (fun k h => by have := hfu k h; omega)
  refine WL.nil ?_
  refine hK11 _ _ ?_; try clear hK11 K11
  refine CW.seq fun K12 hK12 => ?_
  refine CW.region ?_   -- region 9
  refine WL.val (Y.move rfl) (by decide) ?_   -- t45 := move t3
  refine WL.val (Y.assign rfl) (by decide) ?_   -- t2 := assign t45
  refine WL.nil ?_
  refine hK12 _ _ ?_; try clear hK12 K12
  refine CW.ret ⟨_, rfl, ?_⟩
  refine ⟨?_, fun k hk => by have := hfu k hk; omega, hE⟩
  rw [List.take_of_length_le (by omega)] at hO11
  exact hO11
set_option maxRecDepth 20000 in
theorem rRefs_any (u : Value) (c : ComD) (w : World) (hc : Com w u c) (hp : c.ops.length * 32 ≤ 140737488351232) : Calls Try.prog 29 #[u] w (Ret fun v w' => Own w' TDg 32 v (flatD (srtD (gathR c.ops))) ∧ (∀ k, v.ownBlock = some k → w.heap.size ≤ k) ∧ Ext w w') := by
  obtain ⟨pv, ov, rfl, hpp, hoo, hau, hno⟩ := hc
  obtain ⟨Ap, cp, rfl, _, _⟩ := hpp.lens
  obtain ⟨Ao, co, rfl, hco1, hco2⟩ := hoo.lens
  unfold maxLen at hco2
  refine calls_of_CW 32 [2] [(0, .agg (comC (.slice Ap c.parents.length cp) c.author c.note (.slice Ao c.ops.length co)).toArray)] Try.func29 rfl rfl rfl (by simp) args1 ?_
  have hE : Ext w w := Chg.refl
  refine CW.seq fun K1 hK1 => ?_
  refine CW.region ?_   -- region 0
  refine WL.box rfl rfl (by decide) fun g1 w1 hx1 hg1 hB1 => ?_   -- t1 := box 31 t0
  have hlt1 := hB1.lt; have hz1 := hx1.size
  have hM1 := hB1.mem; have hz1 := hx1.size; have hE := hE.thenExt hx1
  refine WL.val (Y.assign rfl) (by decide) ?_   -- t2 := assign c(nilslice)
  refine WL.nil ?_
  refine hK1 _ _ ?_; try clear hK1 K1
  refine CW.seq fun K2 hK2 => ?_
  refine CW.region ?_   -- region 1
  refine WL.val (Y.assign rfl) (by decide) ?_   -- t3 := assign c(nilslice)
  refine WL.nil ?_
  refine hK2 _ _ ?_; try clear hK2 K2
  refine CW.seq fun K3 hK3 => ?_
  refine CW.seq fun K4 hK4 => ?_
  refine CW.region ?_   -- region 2
  refine WL.val (Y.assign rfl) (by decide) ?_   -- t4 := assign c(0:i64)
  refine WL.nil ?_
  refine hK4 _ _ ?_; try clear hK4 K4
  refine CW.block ?_   -- block 0
  refine CW.loop (X := Nat × Value) (fun x => [(1, .pointer (some ⟨g1, 0, none⟩)), (3, x.2), (4, .int .i64 (x.1 : Int))]) (fun x w0 => x.1 ≤ c.ops.length ∧ Own w0 TDg 32 x.2 (flatD (gathR (c.ops.take x.1))) ∧ (∀ k, x.2.ownBlock = some k → w1.heap.size ≤ k) ∧ Ext w w0 ∧ Blk w0 g1 TCo (comC (.slice Ap c.parents.length cp) c.author c.note (.slice Ao c.ops.length co)) ∧ w1.heap.size ≤ w0.heap.size) (fun x => c.ops.length - x.1) (0, .slice none 0 0) (by repeat (first | exact Fr.le.nil | refine Fr.le.cons rfl ?_)) ⟨Nat.zero_le _, Own.nil, (fun k h => by simp [Value.ownBlock] at h), hE, hB1, Nat.le_refl _⟩ ?_
  intro x w2 hl2
  obtain ⟨i, u⟩ := x
  dsimp only at hl2 ⊢
  obtain ⟨hi, hO, hfu, hE, hB1, hzz⟩ := hl2
  obtain ⟨B, mb, cb, rfl⟩ := hO.lens
  have hlo := hO.lt
  have hlen : (gathR (c.ops.take i)).length ≤ i := by have := gathR_len (c.ops.take i); rw [List.length_take] at this; omega
  refine CW.seq fun K5 hK5 => ?_
  refine CW.seq fun K6 hK6 => ?_
  refine CW.region ?_   -- region 3
  refine WL.val (Y.move rfl) (by decide) ?_   -- t5 := move t4
  refine WL.val (Y.fieldAddr fo_apiCommit3 rfl) (by decide) ?_   -- t6 := fieldAddr 31 t1 3
  refine WL.val (Y.load1 Try.underlying24 rfl hB1.mem.com3 rfl) (by decide) ?_   -- t7 := load 24 t6
  refine WL.val (Y.len_slice Try.underlying24 rfl) (by decide) ?_   -- t8 := call len(t7) : 24
  refine WL.val (Y.lss rfl rfl) (by decide) ?_   -- t9 := binOp lss 3 t5 t8 3
  refine WL.nil ?_
  refine hK6 _ _ ?_; try clear hK6 K6
  first | refine CW.condD rfl (fun ht7 => ?_) (fun ht7 => ?_) | refine CW.condND rfl (fun ht7 => ?_) (fun ht7 => ?_) | refine CW.condN rfl (fun ht7 => ?_) (fun ht7 => ?_) | refine CW.cond rfl (fun ht7 => ?_) (fun ht7 => ?_)
  · -- then
    refine CW.skip ?_
    refine hK5 _ _ ?_; try clear hK5 K5
    obtain ⟨o, ho⟩ : ∃ o, c.ops[i]? = some o := ⟨_, List.getElem?_eq_getElem (by omega)⟩
    obtain ⟨a, rfl, hma⟩ := hoo.at ho
    refine CW.seq_to (X := Value) (fun u => [(1, .pointer (some ⟨g1, 0, none⟩)), (3, u), (4, .int .i64 (i : Int))]) (fun u w0 => Own w0 TDg 32 u (flatD (gathR (c.ops.take i) ++ if refKind o.at_ = 2 then [o.at_.c] else [])) ∧ (∀ k, u.ownBlock = some k → w1.heap.size ≤ k) ∧ Ext w w0 ∧ Blk w0 g1 TCo (comC (.slice Ap c.parents.length cp) c.author c.note (.slice (some a) c.ops.length co)) ∧ w1.heap.size ≤ w0.heap.size) ?_ ?_
    · skip
      refine CW.block ?_   -- block 1
      refine CW.seq fun K9 hK9 => ?_
      refine CW.region ?_   -- region 5
      refine WL.val (Y.fieldAddr fo_apiCommit3 rfl) (by decide) ?_   -- t12 := fieldAddr 31 t1 3
      refine WL.val (Y.load1 Try.underlying24 rfl hB1.mem.com3 rfl) (by decide) ?_   -- t13 := load 24 t12
      refine WL.val (Y.move rfl) (by decide) ?_   -- t14 := move t4
      refine WL.val (Y.indexAddrN Try.underlying24 rfl rfl sz0_apiOp (by omega)) (by decide) ?_   -- t15 := indexAddr 24 t13 t14
      refine WL.val (Y.fieldAddr fo_apiOp2 rfl) (by decide) ?_   -- t16 := fieldAddr 57 t15 2
      refine WL.val (Y.load Try.underlying55 rfl (hma.ext hE).op2 (sz_apiRef _) rfl) (by decide) ?_   -- t17 := load 55 t16
      refine WL.call Try.func34 rfl rfl rfl (rRef_any _ _) (by simp) ?_; rintro v w3 ⟨rfl, hx3⟩; have hz3 := hx3.size; have hE := hE.thenExt hx3; have hB1 := hB1.ext hx3   -- t18 := call F34(t17) : 55
      refine WL.val (Y.eql rfl rfl) (by decide) ?_   -- t19 := binOp eql 3 t18 c(2:i64) 3
      refine WL.nil ?_
      refine hK9 _ _ ?_; try clear hK9 K9
      first | refine CW.condD rfl (fun ht10 => ?_) (fun ht10 => ?_) | refine CW.condND rfl (fun ht10 => ?_) (fun ht10 => ?_) | refine CW.condN rfl (fun ht10 => ?_) (fun ht10 => ?_) | refine CW.cond rfl (fun ht10 => ?_) (fun ht10 => ?_)
      · -- then
        refine CW.region ?_   -- region 6
        refine WL.val (Y.move rfl) (by decide) ?_   -- t20 := move t3
        refine WL.val (Y.fieldAddr fo_apiCommit3 rfl) (by decide) ?_   -- t21 := fieldAddr 31 t1 3
        refine WL.val (Y.load1 Try.underlying24 rfl hB1.mem.com3 rfl) (by decide) ?_   -- t22 := load 24 t21
        refine WL.val (Y.move rfl) (by decide) ?_   -- t23 := move t4
        refine WL.val (Y.indexAddrN Try.underlying24 rfl rfl sz0_apiOp (by omega)) (by decide) ?_   -- t24 := indexAddr 24 t22 t23
        refine WL.val (Y.fieldAddr fo_apiOp2 rfl) (by decide) ?_   -- t25 := fieldAddr 57 t24 2
        refine WL.val (Y.fieldAddr fo_apiRef1 rfl) (by decide) ?_   -- t26 := fieldAddr 55 t25 1
        refine WL.val (Y.load Try.underlying51 rfl (hma.ext hE).op2.ref1 (sz_apiDigest _) rfl) (by decide) ?_   -- t27 := load 51 t26
        refine WL.st (St.buildSlice rfl (bs1_dig _)) (by decide) fun v28 w4 hR4 => ?_   -- t28 := buildSlice 29 1 [(0,t27)]
        obtain ⟨g28, rfl, hg28, hB28, hx4⟩ := hR4
        have hz4 := hx4.size
        have hE := hE.thenExt hx4
        have hB1 := hB1.ext hx4
        refine WL.st (St.append Try.underlying29 Try.underlying29 ai_dig rfl rfl (hO.ext (hx3.thenExt hx4)) (Src.one hB28 (digC_length _)) one_digC (by rw [flat_length digC_length]; omega)) (by decide) fun v29 w5 hR5 => ?_   -- t29 := call append(t20, t28) : 29,29
        obtain ⟨hO5, hc5, hf5⟩ := hR5
        have hz5 := hc5.size
        have hE := hE.step hc5 (fun k h => by have := hfu k h; omega)
        have hf5 : ∀ k, v29.ownBlock = some k → w1.heap.size ≤ k := by
          rcases hf5 with h | h
          · intro k hk; rw [h] at hk; exact hfu k hk
          · intro k hk; have := h k hk; omega
        obtain ⟨A5, m5, c5, rfl⟩ := hO5.lens
        have hB1 := hB1.chg hc5 (fun h => by have := hfu _ h; omega)
        refine WL.val (Y.assign rfl) (by decide) ?_   -- t3 := assign t29
        refine WL.nil ?_
        refine ⟨.slice A5 m5 c5, (by repeat (first | exact Fr.le.nil | refine Fr.le.cons rfl ?_)), ?_, hf5, hE, hB1, by omega⟩
        rw [if_pos (by first | assumption | omega)]
        simpa [flatD] using hO5
      -- else
      refine CW.skip ?_
      refine ⟨.slice B mb cb, (by repeat (first | exact Fr.le.nil | refine Fr.le.cons rfl ?_)), ?_, hfu, hE, hB1, by omega⟩
      rw [if_neg (by first | assumption | omega), List.append_nil]
      exact hO.ext hx3
    rintro u w6 hj6
    obtain ⟨hO, hfu, hE, hB1, hzz⟩ := hj6
    refine CW.region ?_   -- region 4
    refine WL.val (Y.move rfl) (by decide) ?_   -- t10 := move t4
    refine WL.val (Y.add rfl rfl ⟨by omega, by omega⟩) (by decide) ?_   -- t11 := binOp add 3 t10 c(1:i64) 3
    refine WL.val (Y.assign rfl) (by decide) ?_   -- t4 := assign t11
    refine WL.nil ?_
    refine ⟨(i + 1, u), by show c.ops.length - (i + 1) < c.ops.length - i; omega, (by repeat (first | exact Fr.le.nil | refine Fr.le.cons rfl ?_)), by show i + 1 ≤ c.ops.length; omega, ?_, hfu, hE, hB1, hzz⟩
    show Own _ _ _ _ (flatD (gathR (c.ops.take (i + 1))))
    rw [gathR_take ho]
    exact hO
  -- else
  refine CW.exit ?_   -- exit 0
  refine hK3 _ _ ?_; try clear hK3 K3
  refine CW.seq fun K11 hK11 => ?_
  refine CW.region ?_   -- region 7
  refine WL.val (Y.move rfl) (by decide) ?_   -- t30 := move t3
  refine WL.call Try.func50 rfl rfl rfl (sorted_any _ _ _ (hO.sl digC_length (by decide)) (by omega)) (by simp) ?_; rintro v31 w7 hR7   -- t31 := call F50(t30) : 29
  obtain ⟨hO7, hf7, hx7⟩ := hR7
  have hz7 := hx7.size
  have hE := hE.thenExt hx7
  refine WL.val (Y.assign rfl) (by decide) ?_   -- t2 := assign t31
  refine WL.nil ?_
  refine hK11 _ _ ?_; try clear hK11 K11
  refine CW.ret ⟨_, rfl, ?_⟩
  refine ⟨?_, fun k hk => by have := hf7 k hk; omega, hE⟩
  rw [List.take_of_length_le (by omega)] at hO7
  exact hO7
end Go.Proofs.Ytfbagecopapfhaa
