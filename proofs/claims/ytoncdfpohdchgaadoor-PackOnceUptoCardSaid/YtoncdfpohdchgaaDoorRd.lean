/- The reader of a commit: commit.place's methods, walked. No condition. -/
import Derived.Test.YtoncdfpohdchgaaDoorGn
import Derived.Great.BuildSlice
set_option linter.unusedSimpArgs false
set_option linter.unusedVariables false
namespace Go.Proofs.YtoncdfpohdchgaaDoor
open Go.RowKit Go.Fw Go.Pl
theorem sz_place : (Tryd.prog.info? 109).map (·.size) = some 2 := by kernel_rfl
theorem sz_u8s : (Tryd.prog.info? 33).map (·.size) = some 1 := by kernel_rfl
theorem fo_commitplace0 : FieldOff Tryd.prog 109 0 0 := ⟨_, _, 1, Tryd.underlying109, rfl, sz_u8s, by decide, rfl⟩
theorem fo_commitplace1 : FieldOff Tryd.prog 109 1 1 := ⟨_, _, 1, Tryd.underlying109, rfl, sz_int, by decide, rfl⟩
theorem fo_commitreader0 : FieldOff Tryd.prog 111 0 0 := ⟨_, _, 2, Tryd.underlying111, rfl, sz_place, by decide, rfl⟩
theorem fo_commitreader1 : FieldOff Tryd.prog 111 1 2 := ⟨_, _, 4, Tryd.underlying111, rfl, sz_com, by decide, rfl⟩
/-- What is panicked with. -/
abbrev pan (e : Int) : List PanicEntry := [{ v := .iface 23 (.int .i64 e), recovered := false }]
/-- A reading method returned: what was read, and where the place is now. -/
abbrev RdR {α : Type} (o : Except Int (α × Nat)) (val : α → Value) (g : Nat) (t : TypeId) (bv : Value) (rest : List Value) (w : World) (v : Value) (w' : World) : Prop :=
  ∃ x nx, o = .ok (x, nx) ∧ v = val x ∧ Chg (· = g) w w' ∧ Blk w' g t (bv :: .int .i64 (nx : Int) :: rest)
abbrev RdS {α : Type} (o : Except Int (α × Nat)) (g : Nat) (w : World) (ch : List PanicEntry) (w' : World) : Prop := ∃ e, o = .error e ∧ ch = pan e ∧ Chg (· = g) w w'

theorem refuse_any (p : Value) (b : Bool) (e : Int) (w : World) : Calls Tryd.prog 66 #[p, .bool b, .int .i64 e] w (RetOr (fun v w' => b = false ∧ v = .tuple #[] ∧ Ext w w') (fun ch w' => b = true ∧ ch = pan e ∧ Ext w w')) := by
  refine calls_of_CW_or 9 [] [(0, p), (1, .bool b), (2, .int .i64 e)] Tryd.func66 rfl rfl rfl (by simp) args3 ?_
  refine CW.seq fun K1 hK1 => ?_
  refine CW.region ?_   -- region 0
  refine WL.val (Y.move rfl) (by decide) ?_   -- t6 := move t1
  refine WL.nil ?_
  refine hK1 _ _ ?_; try clear hK1 K1
  first | refine CW.condD rfl (fun ht2 => ?_) (fun ht2 => ?_) | refine CW.condND rfl (fun ht2 => ?_) (fun ht2 => ?_) | refine CW.condN rfl (fun ht2 => ?_) (fun ht2 => ?_) | refine CW.cond rfl (fun ht2 => ?_) (fun ht2 => ?_)
  · -- then
    refine CW.region ?_   -- region 1
    refine WL.val (Y.move rfl) (by decide) ?_   -- t7 := move t2
    refine WL.val (Y.makeIface (by kernel_rfl) rfl) (by decide) ?_   -- t8 := makeInterface 23 t7
    refine WL.panicI rfl ?_   -- _ := panic t8
    exact ⟨by assumption, rfl, Chg.refl⟩
  -- else
  refine CW.skip ?_
  refine ⟨_, rfl, ?_⟩
  exact ⟨by assumption, rfl, Chg.refl⟩
theorem pnum_any (g : Nat) (t : TypeId) (bv : Value) (bs_ : List UInt8) (at_ : Nat) (rest : List Value) (w : World) (hB : Blk w g t (bv :: .int .i64 (at_ : Int) :: rest)) (hb : By w bv bs_) (hbg : bs_ ≠ [] → ∀ k, bv.ownBlock = some k → k ≠ g) (hat : at_ ≤ bs_.length) : Calls Tryd.prog 65 #[.pointer (some ⟨g, 0, none⟩)] w (RetOr (RdR (gnum bs_ at_) (fun n => .int .i64 (n : Int)) g t bv rest w) (RdS (gnum bs_ at_) g w)) := by
  have hM0 := hB.mem
  refine calls_of_CW_or 29 [2] [(0, .pointer (some ⟨g, 0, none⟩))] Tryd.func65 rfl rfl rfl (by simp) args1 ?_
  refine CW.seq fun K1 hK1 => ?_
  refine CW.region ?_   -- region 0
  refine WL.val (Y.assign rfl) (by decide) ?_   -- t2 := assign c(0:i64)
  refine WL.nil ?_
  refine hK1 _ _ ?_; try clear hK1 K1
  refine CW.seq fun K2 hK2 => ?_
  refine CW.quiet (fun wq => Ext w wq) (by kernel_rfl) (by kernel_rfl) Chg.drew ?_
  refine QL.val (fun wq hq => Y.move rfl) (by decide) ?_   -- t7 := move t0
  refine QL.val (fun wq hq => Y.nilCheck rfl) (by decide) ?_   -- t8 := nilCheck t7
  refine QL.val (fun wq hq => Y.fieldAddr fo_commitplace0 rfl) (by decide) ?_   -- t9 := fieldAddr 109 t8 0
  refine QL.val (fun wq hq => Y.load1 Tryd.underlying33 rfl (hM0.ext hq).place0 rfl) (by decide) ?_   -- t10 := load 33 t9
  refine QL.val (fun wq hq => Y.move rfl) (by decide) ?_   -- t11 := move t0
  refine QL.val (fun wq hq => Y.nilCheck rfl) (by decide) ?_   -- t12 := nilCheck t11
  refine QL.val (fun wq hq => Y.fieldAddr fo_commitplace1 rfl) (by decide) ?_   -- t13 := fieldAddr 109 t12 1
  refine QL.val (fun wq hq => Y.load1 Tryd.underlying3 rfl (hM0.ext hq).place1 rfl) (by decide) ?_   -- t14 := load 3 t13
  refine QL.call Tryd.func47 rfl rfl rfl (fun wq hq => ret_ext (getNum_t _ bs_ at_ _ (hb.ext hq) hat) hq) (by simp) ?_   -- t15 := call F47(t10, t14) : 33,3
  refine QL.val (fun wq hq => Y.move rfl) (by decide) ?_   -- t6 := move t15
  refine QL.val (fun wq hq => Y.extract rfl rfl) (by decide) ?_   -- t16 := extract t6 0
  refine QL.val (fun wq hq => Y.extract rfl rfl) (by decide) ?_   -- t17 := extract t6 1
  refine QL.val (fun wq hq => Y.extract rfl rfl) (by decide) ?_   -- t18 := extract t6 2
  refine QL.val (fun wq hq => Y.assign rfl) (by decide) ?_   -- t3 := assign t16
  refine QL.val (fun wq hq => Y.assign rfl) (by decide) ?_   -- t4 := assign t17
  refine QL.val (fun wq hq => Y.assign rfl) (by decide) ?_   -- t5 := assign t18
  refine QL.nil fun w1 hx1 => ?_
  have hM0 := hM0.ext hx1
  have hB := hB.ext hx1
  have hb := hb.ext hx1
  refine hK2 _ _ ?_; try clear hK2 K2
  refine CW.seq fun K3 hK3 => ?_
  refine CW.region ?_   -- region 2
  refine WL.val (Y.move rfl) (by decide) ?_   -- t19 := move t0
  refine WL.val (Y.move rfl) (by decide) ?_   -- t20 := move t5
  refine WL.val (Y.neq rfl rfl) (by decide) ?_   -- t21 := binOp neq 23 t20 c(0:i64) 23
  refine WL.val (Y.move rfl) (by decide) ?_   -- t22 := move t5
  refine WL.callOr Tryd.func66 rfl rfl rfl (refuse_any _ _ _ _) (by simp) (fun ch w2 hP2 => ?_) ?_   -- t23 := call F66(t19, t21, t22) : 140,4,23
  · skip
    obtain ⟨h1, rfl, hx⟩ := hP2
    exact (⟨_, (gE_ne (of_decide_eq_true h1)).1, rfl, Ext.chg (Chg.thenExt hx1 hx)⟩ : RdS (gnum bs_ at_) g w _ _)
  rintro v23 w2 hR2
  obtain ⟨h1, rfl, hx2⟩ := hR2
  obtain ⟨n, nx, hg, hN, hX⟩ := gE_zero (Decidable.not_not.1 (of_decide_eq_false h1))
  rw [hN, hX]
  have hB := hB.ext hx2
  refine WL.nil ?_
  refine hK3 _ _ ?_; try clear hK3 K3
  refine CW.seq fun K4 hK4 => ?_
  refine CW.region ?_   -- region 3
  refine WL.val (Y.move rfl) (by decide) ?_   -- t24 := move t0
  refine WL.val (Y.move rfl) (by decide) ?_   -- t25 := move t4
  refine WL.val (Y.nilCheck rfl) (by decide) ?_   -- t26 := nilCheck t24
  refine WL.val (Y.fieldAddr fo_commitplace1 rfl) (by decide) ?_   -- t27 := fieldAddr 109 t26 1
  refine WL.store (pre := [bv]) (old := [.int .i64 (at_ : Int)]) (post := rest) (new := [.int .i64 (nx : Int)]) rfl rfl rfl rfl (by kernel_rfl) hB (by first | rfl | (simp [digC_length, opC_length]; done) | (simp only [digC_length, opC_length]; omega)) (one1 rfl) (fun w3 hc3 hB3_ => ?_)   -- _ := store 3 t27 t25
  skip
  refine WL.nil ?_
  refine hK4 _ _ ?_; try clear hK4 K4
  refine CW.seq fun K5 hK5 => ?_
  refine CW.region ?_   -- region 4
  refine WL.val (Y.move rfl) (by decide) ?_   -- t28 := move t3
  refine WL.val (Y.assign rfl) (by decide) ?_   -- t2 := assign t28
  refine WL.nil ?_
  refine hK5 _ _ ?_; try clear hK5 K5
  refine CW.ret ⟨_, rfl, ?_⟩
  exact ⟨n, nx, hg, rfl, (Ext.chg (hx1.thenExt hx2)).trans hc3 (fun _ _ h => h), hB3_⟩
theorem ptext_any (g : Nat) (t : TypeId) (bv : Value) (bs_ : List UInt8) (at_ : Nat) (rest : List Value) (w : World) (hB : Blk w g t (bv :: .int .i64 (at_ : Int) :: rest)) (hb : By w bv bs_) (hbg : bs_ ≠ [] → ∀ k, bv.ownBlock = some k → k ≠ g) (hat : at_ ≤ bs_.length) : Calls Tryd.prog 68 #[.pointer (some ⟨g, 0, none⟩)] w (RetOr (RdR (gtext bs_ at_) (fun l => .string (bs l)) g t bv rest w) (RdS (gtext bs_ at_) g w)) := by
  have hM0 := hB.mem
  refine calls_of_CW_or 29 [2] [(0, .pointer (some ⟨g, 0, none⟩))] Tryd.func68 rfl rfl rfl (by simp) args1 ?_
  refine CW.seq fun K1 hK1 => ?_
  refine CW.region ?_   -- region 0
  refine WL.val (Y.assign rfl) (by decide) ?_   -- t2 := assign c(STR)
  refine WL.nil ?_
  refine hK1 _ _ ?_; try clear hK1 K1
  refine CW.seq fun K2 hK2 => ?_
  refine CW.quiet (fun wq => Ext w wq) (by kernel_rfl) (by kernel_rfl) Chg.drew ?_
  refine QL.val (fun wq hq => Y.move rfl) (by decide) ?_   -- t7 := move t0
  refine QL.val (fun wq hq => Y.nilCheck rfl) (by decide) ?_   -- t8 := nilCheck t7
  refine QL.val (fun wq hq => Y.fieldAddr fo_commitplace0 rfl) (by decide) ?_   -- t9 := fieldAddr 109 t8 0
  refine QL.val (fun wq hq => Y.load1 Tryd.underlying33 rfl (hM0.ext hq).place0 rfl) (by decide) ?_   -- t10 := load 33 t9
  refine QL.val (fun wq hq => Y.move rfl) (by decide) ?_   -- t11 := move t0
  refine QL.val (fun wq hq => Y.nilCheck rfl) (by decide) ?_   -- t12 := nilCheck t11
  refine QL.val (fun wq hq => Y.fieldAddr fo_commitplace1 rfl) (by decide) ?_   -- t13 := fieldAddr 109 t12 1
  refine QL.val (fun wq hq => Y.load1 Tryd.underlying3 rfl (hM0.ext hq).place1 rfl) (by decide) ?_   -- t14 := load 3 t13
  refine QL.call Tryd.func50 rfl rfl rfl (fun wq hq => ret_ext (getText_any _ bs_ at_ _ (hb.ext hq) hat) hq) (by simp) ?_   -- t15 := call F50(t10, t14) : 33,3
  refine QL.val (fun wq hq => Y.move rfl) (by decide) ?_   -- t6 := move t15
  refine QL.val (fun wq hq => Y.extract rfl rfl) (by decide) ?_   -- t16 := extract t6 0
  refine QL.val (fun wq hq => Y.extract rfl rfl) (by decide) ?_   -- t17 := extract t6 1
  refine QL.val (fun wq hq => Y.extract rfl rfl) (by decide) ?_   -- t18 := extract t6 2
  refine QL.val (fun wq hq => Y.assign rfl) (by decide) ?_   -- t3 := assign t16
  refine QL.val (fun wq hq => Y.assign rfl) (by decide) ?_   -- t4 := assign t17
  refine QL.val (fun wq hq => Y.assign rfl) (by decide) ?_   -- t5 := assign t18
  refine QL.nil fun w1 hx1 => ?_
  have hM0 := hM0.ext hx1
  have hB := hB.ext hx1
  have hb := hb.ext hx1
  refine hK2 _ _ ?_; try clear hK2 K2
  refine CW.seq fun K3 hK3 => ?_
  refine CW.region ?_   -- region 2
  refine WL.val (Y.move rfl) (by decide) ?_   -- t19 := move t0
  refine WL.val (Y.move rfl) (by decide) ?_   -- t20 := move t5
  refine WL.val (Y.neq rfl rfl) (by decide) ?_   -- t21 := binOp neq 23 t20 c(0:i64) 23
  refine WL.val (Y.move rfl) (by decide) ?_   -- t22 := move t5
  refine WL.callOr Tryd.func66 rfl rfl rfl (refuse_any _ _ _ _) (by simp) (fun ch w2 hP2 => ?_) ?_   -- t23 := call F66(t19, t21, t22) : 140,4,23
  · skip
    obtain ⟨h1, rfl, hx⟩ := hP2
    exact (⟨_, gtE_ne (of_decide_eq_true h1), rfl, Ext.chg (Chg.thenExt hx1 hx)⟩ : RdS (gtext bs_ at_) g w _ _)
  rintro v23 w2 hR2
  obtain ⟨h1, rfl, hx2⟩ := hR2
  obtain ⟨n, nx, hg, hN, hX⟩ := gtE_zero (Decidable.not_not.1 (of_decide_eq_false h1))
  rw [hN, hX]
  have hB := hB.ext hx2
  refine WL.nil ?_
  refine hK3 _ _ ?_; try clear hK3 K3
  refine CW.seq fun K4 hK4 => ?_
  refine CW.region ?_   -- region 3
  refine WL.val (Y.move rfl) (by decide) ?_   -- t24 := move t0
  refine WL.val (Y.move rfl) (by decide) ?_   -- t25 := move t4
  refine WL.val (Y.nilCheck rfl) (by decide) ?_   -- t26 := nilCheck t24
  refine WL.val (Y.fieldAddr fo_commitplace1 rfl) (by decide) ?_   -- t27 := fieldAddr 109 t26 1
  refine WL.store (pre := [bv]) (old := [.int .i64 (at_ : Int)]) (post := rest) (new := [.int .i64 (nx : Int)]) rfl rfl rfl rfl (by kernel_rfl) hB (by first | rfl | (simp [digC_length, opC_length]; done) | (simp only [digC_length, opC_length]; omega)) (one1 rfl) (fun w3 hc3 hB3_ => ?_)   -- _ := store 3 t27 t25
  skip
  refine WL.nil ?_
  refine hK4 _ _ ?_; try clear hK4 K4
  refine CW.seq fun K5 hK5 => ?_
  refine CW.region ?_   -- region 4
  refine WL.val (Y.move rfl) (by decide) ?_   -- t28 := move t3
  refine WL.val (Y.assign rfl) (by decide) ?_   -- t2 := assign t28
  refine WL.nil ?_
  refine hK5 _ _ ?_; try clear hK5 K5
  refine CW.ret ⟨_, rfl, ?_⟩
  exact ⟨n, nx, hg, rfl, (Ext.chg (hx1.thenExt hx2)).trans hc3 (fun _ _ h => h), hB3_⟩
theorem pbytes_any (g : Nat) (t : TypeId) (bv : Value) (bs_ : List UInt8) (at_ n : Nat) (rest : List Value) (w : World) (hB : Blk w g t (bv :: .int .i64 (at_ : Int) :: rest)) (hb : By w bv bs_) (hbg : bs_ ≠ [] → ∀ k, bv.ownBlock = some k → k ≠ g) (hat : at_ ≤ bs_.length) (hn0 : 0 < n) (hn : n ≤ 32) : Calls Tryd.prog 74 #[.pointer (some ⟨g, 0, none⟩), .int .i64 (n : Int)] w (RetOr (fun v w' => at_ + n ≤ bs_.length ∧ ∃ a c, v = .slice (some a) n c ∧ Mem w' a (bytesC ((bs_.drop at_).take n)) ∧ Chg (· = g) w w' ∧ Blk w' g t (bv :: .int .i64 ((at_ + n : Nat) : Int) :: rest)) (fun ch w' => bs_.length < at_ + n ∧ ch = pan 8 ∧ Chg (· = g) w w')) := by
  have hM0 := hB.mem
  have hb0 := hb
  obtain ⟨A, m, c, rfl, hl, hmc, hcm, hA, hnn⟩ := hb0
  unfold maxLen at hcm
  refine calls_of_CW_or 42 [4] [(0, .pointer (some ⟨g, 0, none⟩)), (1, .int .i64 (n : Int))] Tryd.func74 rfl rfl rfl (by simp) args2 ?_
  refine CW.seq fun K1 hK1 => ?_
  refine CW.region ?_   -- region 0
  refine WL.val (Y.assign rfl) (by decide) ?_   -- t4 := assign c(nilslice)
  refine WL.nil ?_
  refine hK1 _ _ ?_; try clear hK1 K1
  refine CW.seq fun K2 hK2 => ?_
  refine CW.held (fun wq => Ext w wq) (by kernel_rfl) 14 rfl fun w1 hS => ?_
  refine RH.take 0 (fun _ _ _ _ h => h) (by kernel_rfl) hS rfl (by kernel_rfl) (by kernel_rfl) (fun wq hq => Y.move rfl) (by decide) ?_   -- t5 := move t0
  refine RH.take 1 (fun _ _ _ _ h => h) (by kernel_rfl) hS rfl (by kernel_rfl) (by kernel_rfl) (fun wq hq => Y.move rfl) (by decide) ?_   -- t6 := move t1
  refine RH.take 2 (fun _ _ _ _ h => h) (by kernel_rfl) hS rfl (by kernel_rfl) (by kernel_rfl) (fun wq hq => Y.move rfl) (by decide) ?_   -- t7 := move t0
  refine RH.take 3 (fun _ _ _ _ h => h) (by kernel_rfl) hS rfl (by kernel_rfl) (by kernel_rfl) (fun wq hq => Y.nilCheck rfl) (by decide) ?_   -- t8 := nilCheck t7
  refine RH.take 4 (fun _ _ _ _ h => h) (by kernel_rfl) hS rfl (by kernel_rfl) (by kernel_rfl) (fun wq hq => Y.fieldAddr fo_commitplace0 rfl) (by decide) ?_   -- t9 := fieldAddr 109 t8 0
  refine RH.take 5 (fun _ _ _ _ h => h) (by kernel_rfl) hS rfl (by kernel_rfl) (by kernel_rfl) (fun wq hq => Y.load1 Tryd.underlying33 rfl (hM0.ext hq).place0 rfl) (by decide) ?_   -- t10 := load 33 t9
  refine RH.take 6 (fun _ _ _ _ h => h) (by kernel_rfl) hS rfl (by kernel_rfl) (by kernel_rfl) (fun wq hq => Y.len_slice Tryd.underlying33 rfl) (by decide) ?_   -- t11 := call len(t10) : 33
  refine RH.take 7 (fun _ _ _ _ h => h) (by kernel_rfl) hS rfl (by kernel_rfl) (by kernel_rfl) (fun wq hq => Y.move rfl) (by decide) ?_   -- t12 := move t0
  refine RH.take 8 (fun _ _ _ _ h => h) (by kernel_rfl) hS rfl (by kernel_rfl) (by kernel_rfl) (fun wq hq => Y.nilCheck rfl) (by decide) ?_   -- t13 := nilCheck t12
  refine RH.take 9 (fun _ _ _ _ h => h) (by kernel_rfl) hS rfl (by kernel_rfl) (by kernel_rfl) (fun wq hq => Y.fieldAddr fo_commitplace1 rfl) (by decide) ?_   -- t14 := fieldAddr 109 t13 1
  refine RH.take 10 (fun _ _ _ _ h => h) (by kernel_rfl) hS rfl (by kernel_rfl) (by kernel_rfl) (fun wq hq => Y.load1 Tryd.underlying3 rfl (hM0.ext hq).place1 rfl) (by decide) ?_   -- t15 := load 3 t14
  refine RH.take 11 (fun _ _ _ _ h => h) (by kernel_rfl) hS rfl (by kernel_rfl) (by kernel_rfl) (fun wq hq => Y.sub rfl rfl ⟨by omega, by omega⟩) (by decide) ?_   -- t16 := binOp sub 3 t11 t15 3
  refine RH.take 12 (fun _ _ _ _ h => h) (by kernel_rfl) hS rfl (by kernel_rfl) (by kernel_rfl) (fun wq hq => Y.gtr rfl rfl) (by decide) ?_   -- t17 := binOp gtr 3 t6 t16 3
  refine RH.one 13 (by kernel_rfl) ?_
  refine RS.callOr rfl Tryd.func66 rfl rfl rfl (refuse_any _ _ _ _) (by simp) (fun ch w2 hP2 => ?_) ?_   -- call F66(t5, t17, c(8:i64)) : 140,4,23
  · skip
    obtain ⟨h1, rfl, hx⟩ := hP2
    have := of_decide_eq_true h1
    exact (⟨by omega, rfl, Ext.chg (Chg.thenExt hS hx)⟩ : bs_.length < at_ + n ∧ _ = pan 8 ∧ Chg (· = g) w _)
  rintro v18 w2 hR2
  obtain ⟨h1, rfl, hx2⟩ := hR2
  have hS := hS.thenExt hx2
  have hle := of_decide_eq_false h1
  refine ⟨hS, ?_⟩
  refine RH.done (by kernel_rfl) ?_
  have hx3 := hS; have hM0 := hM0.ext hx3; have hB := hB.ext hx3; have hb := hb.ext hx3
  refine hK2 _ _ ?_; try clear hK2 K2
  refine CW.seq fun K3 hK3 => ?_
  refine CW.region ?_   -- region 2
  refine WL.val (Y.move rfl) (by decide) ?_   -- t19 := move t0
  refine WL.val (Y.nilCheck rfl) (by decide) ?_   -- t20 := nilCheck t19
  refine WL.val (Y.fieldAddr fo_commitplace1 rfl) (by decide) ?_   -- t21 := fieldAddr 109 t20 1
  refine WL.val (Y.load1 Tryd.underlying3 rfl hM0.place1 rfl) (by decide) ?_   -- t22 := load 3 t21
  refine WL.val (Y.move rfl) (by decide) ?_   -- t23 := move t1
  refine WL.val (Y.add rfl rfl ⟨by omega, by omega⟩) (by decide) ?_   -- t24 := binOp add 3 t22 t23 3
  refine WL.val (Y.nilCheck rfl) (by decide) ?_   -- t25 := nilCheck t19
  refine WL.val (Y.fieldAddr fo_commitplace1 rfl) (by decide) ?_   -- t26 := fieldAddr 109 t25 1
  refine WL.store (pre := [.slice A m c]) (old := [.int .i64 (at_ : Int)]) (post := rest) (new := [.int .i64 ((at_ : Int) + (n : Int))]) rfl rfl rfl rfl (by kernel_rfl) hB (by first | rfl | (simp [digC_length, opC_length]; done) | (simp only [digC_length, opC_length]; omega)) (one1 rfl) (fun w4 hc4 hB4_ => ?_)   -- _ := store 3 t26 t24
  have hM0 : Mem w4 ⟨g, 0, none⟩ (.slice A m c :: .int .i64 ((at_ : Int) + (n : Int)) :: rest) := Blk.mem hB4_
  have hb := hb.chg hc4 hbg
  have hB := hB4_
  have hb2 := hb
  obtain ⟨A2, m2, c2, e2, hl2, hmc2, _, hA2, _⟩ := hb2
  injection e2 with e2 e3 e4
  subst e2; subst e3; subst e4
  obtain ⟨a, rfl, hMb⟩ := hA2 (by omega)
  refine WL.nil ?_
  refine hK3 _ _ ?_; try clear hK3 K3
  refine CW.seq fun K4 hK4 => ?_
  refine CW.quiet (fun wq => Ext w4 wq) (by kernel_rfl) (by kernel_rfl) Chg.drew ?_
  refine QL.val (fun wq hq => Y.move rfl) (by decide) ?_   -- t27 := move t0
  refine QL.val (fun wq hq => Y.nilCheck rfl) (by decide) ?_   -- t28 := nilCheck t27
  refine QL.val (fun wq hq => Y.fieldAddr fo_commitplace0 rfl) (by decide) ?_   -- t29 := fieldAddr 109 t28 0
  refine QL.val (fun wq hq => Y.load1 Tryd.underlying33 rfl (hM0.ext hq).place0 rfl) (by decide) ?_   -- t30 := load 33 t29
  refine QL.val (fun wq hq => Y.move rfl) (by decide) ?_   -- t31 := move t0
  refine QL.val (fun wq hq => Y.nilCheck rfl) (by decide) ?_   -- t32 := nilCheck t31
  refine QL.val (fun wq hq => Y.fieldAddr fo_commitplace1 rfl) (by decide) ?_   -- t33 := fieldAddr 109 t32 1
  refine QL.val (fun wq hq => Y.load1 Tryd.underlying3 rfl (hM0.ext hq).place1 rfl) (by decide) ?_   -- t34 := load 3 t33
  refine QL.val (fun wq hq => Y.move rfl) (by decide) ?_   -- t35 := move t1
  refine QL.val (fun wq hq => Y.sub rfl rfl ⟨by omega, by omega⟩) (by decide) ?_   -- t36 := binOp sub 3 t34 t35 3
  refine QL.val (fun wq hq => Y.move rfl) (by decide) ?_   -- t37 := move t0
  refine QL.val (fun wq hq => Y.nilCheck rfl) (by decide) ?_   -- t38 := nilCheck t37
  refine QL.val (fun wq hq => Y.fieldAddr fo_commitplace1 rfl) (by decide) ?_   -- t39 := fieldAddr 109 t38 1
  refine QL.val (fun wq hq => Y.load1 Tryd.underlying3 rfl (hM0.ext hq).place1 rfl) (by decide) ?_   -- t40 := load 3 t39
  refine QL.val (fun wq hq => Y.slice_slI (i := at_) (j := at_ + n) Tryd.underlying33 rfl rfl rfl sz0_uint8 (by omega) (by omega) (by omega) (by omega)) (by decide) ?_   -- t41 := slice 33 t30 t36 t40 none
  refine QL.val (fun wq hq => Y.assign rfl) (by decide) ?_   -- t4 := assign t41
  refine QL.nil fun w5 hx5 => ?_
  have hM0 := hM0.ext hx5
  have hB := hB.ext hx5
  have hb := hb.ext hx5
  refine hK4 _ _ ?_; try clear hK4 K4
  refine CW.ret ⟨_, rfl, ?_⟩
  exact ⟨by omega, if c = at_ then a else a.add (at_ * 1), c - at_, by rw [Nat.add_sub_cancel_left], by have := By.slMem (hMb.ext hx5) hl hmc (i := at_) (j := at_ + n) (by omega) (by omega); rwa [Nat.add_sub_cancel_left] at this, ((Ext.chg hx3).trans hc4 (fun _ _ h => h)).thenExt hx5, Blk.ext hB4_ hx5⟩
end Go.Proofs.YtoncdfpohdchgaaDoor
