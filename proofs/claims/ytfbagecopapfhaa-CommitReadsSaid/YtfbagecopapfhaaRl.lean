/- Lent, Held, CommitReads, walked. No condition. -/
import Derived.Test.YtfbagecopapfhaaRk
import Derived.Test.YtfbagecopapfhaaLb
set_option linter.unusedSimpArgs false
set_option linter.unusedVariables false
namespace Go.Proofs.Ytfbagecopapfhaa
open Go.RowKit Go.Fw Go.Pl
theorem bytes_pre {w : World} {a : Addr} {b c : List UInt8} (h : Mem w a (bytesC (b ++ c))) : Mem w a (bytesC b) := fun j v hv => h j v (by
  rw [bytesC_append, List.getElem?_append_left (List.getElem?_eq_some_iff.1 hv).1]; exact hv)
theorem bytes_split {ys : List UInt8} {i : Nat} {y : UInt8} (h : ys[i]? = some y) : bytesC ys = bytesC (ys.take i) ++ [bc y] ++ bytesC (ys.drop (i + 1)) := by
  have h1 : ys = ys.take i ++ y :: ys.drop (i + 1) := by
    obtain ⟨hi, rfl⟩ := List.getElem?_eq_some_iff.1 h
    rw [← List.drop_eq_getElem_cons hi, List.take_append_drop]
  conv => lhs; rw [h1]
  simp [bytesC]
theorem byte_at {w : World} {a : Addr} {b : List UInt8} {x : UInt8} {c : List UInt8} (h : Mem w a (bytesC (b ++ x :: c))) : w.cell? (a.add (b.length * 1)) = some (bc x) := by
  rw [Nat.mul_one]
  exact h _ _ (bytesC_get (by simp))
theorem byte_at1 {w : World} {a : Addr} {b : List UInt8} {x y : UInt8} {c : List UInt8} (h : Mem w a (bytesC (b ++ x :: y :: c))) : w.cell? (a.add ((b.length + 1) * 1)) = some (bc y) := by
  rw [Nat.mul_one]
  refine h _ _ (bytesC_get ?_)
  rw [List.getElem?_append_right (by omega)]
  simp

theorem lent_any (u : Value) (b : List UInt8) (w : World) (hb : By w u b) (hr : b.length ≤ 140737488351232) : Calls Try.prog 19 #[u] w (Ret fun v w' => ∃ g c, v = .slice (some ⟨g, 0, none⟩) b.length c ∧ Own w' 5 1 (.slice (some ⟨g, 0, none⟩) (b.length + 2) c) (bytesC (b ++ [77, 78])) ∧ w.heap.size ≤ g ∧ Ext w w') := by
  have hb0 := hb
  obtain ⟨A, m, c, rfl⟩ := hb.lens
  have hl := hb.len
  refine calls_of_CW 11 [2] [(0, .slice A m c)] Try.func19 rfl rfl rfl (by simp) args1 ?_
  have hE : Ext w w := Chg.refl
  refine CW.seq fun K1 hK1 => ?_
  refine CW.region ?_   -- region 0
  refine WL.val (Y.assign rfl) (by decide) ?_   -- t2 := assign c(nilslice)
  refine WL.nil ?_
  refine hK1 _ _ ?_; try clear hK1 K1
  refine CW.seq fun K2 hK2 => ?_
  refine CW.region ?_   -- region 1
  refine WL.st (St.buildSlice0 Try.underlying35 sz_uint8) (by decide) fun v3 w1 hR1 => ?_   -- t3 := buildSlice 35 0 []
  obtain ⟨g3, rfl, hg3, hO3, hx1⟩ := hR1
  have hz1 := hx1.size
  have hE := hE.thenExt hx1
  refine WL.val (Y.move rfl) (by decide) ?_   -- t4 := move t0
  refine WL.st (St.app (xs := []) (ys := b) Try.underlying35 Try.underlying35 ai_u8 rfl rfl hO3 (Src.by (hb0.ext hx1)) (by simp; omega)) (by decide) fun v5 w2 hR2 => ?_   -- t5 := call append(t3, t4) : 35,35
  obtain ⟨hO5, hc2, hf2⟩ := hR2
  have hS : ∀ k, (Value.slice (some ⟨g3, 0, none⟩) 0 0).ownBlock = some k → w.heap.size ≤ k := fun k h => by simp [Value.ownBlock] at h; omega
  have hz2 := hc2.size
  have hE := hE.step hc2 hS
  have hf5 : ∀ k, v5.ownBlock = some k → w.heap.size ≤ k := by
    rcases hf2 with h | h
    · intro k hk; rw [h] at hk; exact hS k hk
    · intro k hk; have := h k hk; omega
  have hO5 : Own w2 5 1 v5 (bytesC b) := by simpa using hO5
  refine WL.st (St.buildSlice rfl (fun w => run_bsN Try.underlying35 ai_u8 [77, 78] (by decide) (by decide) w)) (by decide) fun v6 w3 hR3 => ?_   -- t6 := buildSlice 35 2 [(0,c(77:u8)), (1,c(78:u8))]
  obtain ⟨g6, rfl, hg6, hB6, hx3⟩ := hR3
  have hz3 := hx3.size
  have hE := hE.thenExt hx3
  have hO5 := hO5.ext hx3
  refine WL.st (St.app (ys := [77, 78]) Try.underlying35 Try.underlying35 ai_u8 rfl rfl hO5 (Src.arr (ys := [77, 78]) hB6.mem) (by simp; omega)) (by decide) fun v7 w4 hR4 => ?_   -- t7 := call append(t5, t6) : 35,35
  obtain ⟨hO7, hc4, hf4⟩ := hR4
  have hE := hE.step hc4 hf5
  have hf7 : ∀ k, v7.ownBlock = some k → w.heap.size ≤ k := by
    rcases hf4 with h | h
    · intro k hk; rw [h] at hk; exact hf5 k hk
    · intro k hk; have := h k hk; omega
  obtain ⟨A7, m7, c7, rfl⟩ := hO7.lens
  obtain ⟨g7, rfl, hg7⟩ := hO7.head (by simp [bytesC])
  have hl7 := hO7.by.len
  simp only [List.length_append, List.length_cons, List.length_nil] at hl7
  refine WL.val (Y.move rfl) (by decide) ?_   -- t8 := move t0
  refine WL.val (Y.len_slice Try.underlying35 rfl) (by decide) ?_   -- t9 := call len(t8) : 35
  refine WL.val (Y.slice_hi Try.underlying35 rfl rfl sz0_uint8 rfl (by omega)) (by decide) ?_   -- t10 := slice 35 t7 none t9 none
  refine WL.val (Y.assign rfl) (by decide) ?_   -- t2 := assign t10
  refine WL.nil ?_
  refine hK2 _ _ ?_; try clear hK2 K2
  refine CW.ret ⟨_, rfl, ?_⟩
  refine ⟨g7, c7, by rw [hl.1], ?_, hf7 g7 rfl, hE⟩
  rw [hl7.1]; exact hO7
theorem held_any (g c : Nat) (u : Value) (b : List UInt8) (w : World) (hO : Own w 5 1 (.slice (some ⟨g, 0, none⟩) (b.length + 2) c) (bytesC (b ++ [77, 78]))) (hb : By w u b) : Calls Try.prog 23 #[.slice (some ⟨g, 0, none⟩) b.length c, u] w (Ret fun v w' => v = .bool true ∧ Ext w w') := by
  obtain ⟨A, m, cc, rfl⟩ := hb.lens
  obtain ⟨rfl, hmc, hcm⟩ := hb.len
  have hl7 := hO.by.len
  simp only [List.length_append, List.length_cons, List.length_nil] at hl7
  unfold maxLen at hl7 hcm
  have hM := fun (w' : World) (hq : Ext w w') => (Own.by (hO.ext hq)).mem.1 (by omega)
  refine calls_of_CW 36 [4] [(0, .slice (some ⟨g, 0, none⟩) b.length c), (1, .slice A b.length cc)] Try.func23 rfl rfl rfl (by simp) args2 ?_
  have hE : Ext w w := Chg.refl
  refine CW.seq fun K1 hK1 => ?_
  refine CW.region ?_   -- region 0
  refine WL.val (Y.assign rfl) (by decide) ?_   -- t4 := assign c(false)
  refine WL.nil ?_
  refine hK1 _ _ ?_; try clear hK1 K1
  refine CW.seq fun K2 hK2 => ?_
  refine CW.region ?_   -- region 1
  refine WL.val (Y.move rfl) (by decide) ?_   -- t6 := move t0
  refine WL.val (Y.move rfl) (by decide) ?_   -- t7 := move t1
  refine WL.val (Y.len_slice Try.underlying35 rfl) (by decide) ?_   -- t8 := call len(t7) : 35
  refine WL.val (Y.add rfl rfl ⟨by omega, by omega⟩) (by decide) ?_   -- t9 := binOp add 3 t8 c(2:i64) 3
  refine WL.val (Y.slice_hi Try.underlying35 rfl rfl sz0_uint8 (show _ = ((b.length + 2 : Nat) : Int) by omega) (by omega)) (by decide) ?_   -- t10 := slice 35 t6 none t9 none
  refine WL.val (Y.assign rfl) (by decide) ?_   -- t5 := assign t10
  refine WL.nil ?_
  refine hK2 _ _ ?_; try clear hK2 K2
  refine CW.seq fun K3 hK3 => ?_
  refine CW.quiet (fun wq => Ext w wq) (by kernel_rfl) (by kernel_rfl) Chg.drew ?_
  refine QL.val (fun wq hq => Y.move rfl) (by decide) ?_   -- t11 := move t5
  refine QL.val (fun wq hq => Y.move rfl) (by decide) ?_   -- t12 := move t1
  refine QL.val (fun wq hq => Y.len_slice Try.underlying35 rfl) (by decide) ?_   -- t13 := call len(t12) : 35
  refine QL.val (fun wq hq => Y.slice_hi Try.underlying35 rfl rfl sz0_uint8 rfl (by omega)) (by decide) ?_   -- t14 := slice 35 t11 none t13 none
  refine QL.val (fun wq hq => Y.bytes_string Try.underlying35 Try.underlying5 Try.underlying9 rfl rfl (fun _ => by obtain ⟨a, h, hm⟩ := hM wq hq; exact ⟨a, h, bytes_pre hm⟩) (fun h => by cases h)) (by decide) ?_   -- t15 := convert 35 9 t14
  refine QL.val (fun wq hq => Y.move rfl) (by decide) ?_   -- t16 := move t1
  refine QL.val (fun wq hq => Y.bytes_string Try.underlying35 Try.underlying5 Try.underlying9 rfl rfl (hb.ext hq).mem.1 hb.mem.2) (by decide) ?_   -- t17 := convert 35 9 t16
  refine QL.val (fun wq hq => Y.eql_string rfl rfl) (by decide) ?_   -- t18 := binOp eql 9 t15 t17 9
  refine QL.val (fun wq hq => Y.move rfl) (by decide) ?_   -- t19 := move t18
  refine QL.know (d := 19) (u := .bool true) rfl (by rw [beq_self_eq_true]) ?_
  refine QL.gval rfl rfl (fun wq hq => Y.move rfl) (by decide) ?_   -- t20 := move t5 [if 8=true]
  refine QL.gval rfl rfl (fun wq hq => Y.move rfl) (by decide) ?_   -- t21 := move t1 [if 8=true]
  refine QL.gval rfl rfl (fun wq hq => Y.len_slice Try.underlying35 rfl) (by decide) ?_   -- t22 := call len(t21) : 35 [if 8=true]
  refine QL.gval rfl rfl (fun wq hq => Y.indexAddrN Try.underlying35 rfl rfl sz0_uint8 (by omega)) (by decide) ?_   -- t23 := indexAddr 35 t20 t22 [if 8=true]
  refine QL.gval rfl rfl (fun wq hq => Y.load1 Try.underlying5 rfl (by obtain ⟨a, h, hm⟩ := hM wq hq; injection h with h; subst h; exact byte_at hm) rfl) (by decide) ?_   -- t24 := load 5 t23 [if 8=true]
  refine QL.gval rfl rfl (fun wq hq => Y.eql rfl rfl) (by decide) ?_   -- t25 := binOp eql 5 t24 c(77:u8) 5 [if 8=true]
  refine QL.val (fun wq hq => Y.pick rfl rfl) (by decide) ?_   -- t26 := pick t19 t25 c(false)
  refine QL.val (fun wq hq => Y.move rfl) (by decide) ?_   -- t27 := move t26
  refine QL.know (d := 27) (u := .bool true) rfl (by rfl) ?_
  refine QL.gval rfl rfl (fun wq hq => Y.move rfl) (by decide) ?_   -- t28 := move t5 [if 16=true]
  refine QL.gval rfl rfl (fun wq hq => Y.move rfl) (by decide) ?_   -- t29 := move t1 [if 16=true]
  refine QL.gval rfl rfl (fun wq hq => Y.len_slice Try.underlying35 rfl) (by decide) ?_   -- t30 := call len(t29) : 35 [if 16=true]
  refine QL.gval rfl rfl (fun wq hq => Y.add rfl rfl ⟨by omega, by omega⟩) (by decide) ?_   -- t31 := binOp add 3 t30 c(1:i64) 3 [if 16=true]
  refine QL.gval rfl rfl (fun wq hq => Y.indexAddrN Try.underlying35 rfl rfl sz0_uint8 (i := b.length + 1) (by omega)) (by decide) ?_   -- t32 := indexAddr 35 t28 t31 [if 16=true]
  refine QL.gval rfl rfl (fun wq hq => Y.load1 Try.underlying5 rfl (by obtain ⟨a, h, hm⟩ := hM wq hq; injection h with h; subst h; exact byte_at1 hm) rfl) (by decide) ?_   -- t33 := load 5 t32 [if 16=true]
  refine QL.gval rfl rfl (fun wq hq => Y.eql rfl rfl) (by decide) ?_   -- t34 := binOp eql 5 t33 c(78:u8) 5 [if 16=true]
  refine QL.val (fun wq hq => Y.pick rfl rfl) (by decide) ?_   -- t35 := pick t27 t34 c(false)
  refine QL.val (fun wq hq => Y.assign rfl) (by decide) ?_   -- t4 := assign t35
  refine QL.nil fun w1 hx1 => ?_
  have hz1 := hx1.size
  have hE := hE.thenExt hx1
  refine hK3 _ _ ?_; try clear hK3 K3
  refine CW.ret ⟨_, rfl, ?_⟩
  exact ⟨rfl, hE⟩
theorem reads_any (u : Value) (b : List UInt8) (w : World) (hb : By w u b) (hr : b.length ≤ 140737488351232) : Calls Try.prog 6 #[u] w (Ret (True_ w)) := by
  have hb0 := hb
  obtain ⟨A, m, c, rfl⟩ := hb.lens
  have hbl := hb.len
  refine calls_of_CW 55 [2] [(0, .slice A m c)] Try.func6 rfl rfl rfl (by simp) args1 ?_
  have hE : Ext w w := Chg.refl
  refine CW.seq fun K1 hK1 => ?_
  refine CW.region ?_   -- region 0
  refine WL.val (Y.assign rfl) (by decide) ?_   -- t2 := assign c(false)
  refine WL.nil ?_
  refine hK1 _ _ ?_; try clear hK1 K1
  refine CW.seq fun K2 hK2 => ?_
  refine CW.region ?_   -- region 1
  refine WL.val (Y.move rfl) (by decide) ?_   -- t9 := move t0
  refine WL.call Try.func19 rfl rfl rfl (lent_any _ b _ hb0 hr) (by simp) ?_; rintro v10 w1 hR1   -- t10 := call F19(t9) : 35
  obtain ⟨g, cx, rfl, hO, hgw, hx1⟩ := hR1
  have hz1 := hx1.size
  have hE := hE.thenExt hx1
  have hlg := hO.lt g rfl
  have hol := hO.by.len
  simp only [List.length_append, List.length_cons, List.length_nil] at hol
  have hbx : By w1 (.slice (some ⟨g, 0, none⟩) b.length cx) b := by have := hO.by.take (j := b.length) (by omega); simpa using this
  refine WL.val (Y.assign rfl) (by decide) ?_   -- t3 := assign t10
  refine WL.nil ?_
  refine hK2 _ _ ?_; try clear hK2 K2
  refine CW.seq fun K3 hK3 => ?_
  refine CW.region ?_   -- region 2
  refine WL.val (Y.move rfl) (by decide) ?_   -- t12 := move t3
  refine WL.call Try.func20 rfl rfl rfl (decode_any _ b _ hbx) (by simp) ?_; rintro v13 w2 hR2   -- t13 := call F20(t12) : 35
  obtain ⟨pv1, ov1, rfl, hx2, hP1, hQ1, hfp1, hfo1⟩ := hR2
  have hz2 := hx2.size
  have hE := hE.thenExt hx2
  obtain ⟨Ap1, cp1, rfl, _, _⟩ := hP1.lens
  obtain ⟨Ao1, co1, rfl, _, _⟩ := hQ1.lens
  refine WL.val (Y.move rfl) (by decide) ?_   -- t11 := move t13
  refine WL.val (Y.extract rfl rfl) (by decide) ?_   -- t14 := extract t11 0
  refine WL.val (Y.extract rfl rfl) (by decide) ?_   -- t15 := extract t11 1
  refine as_apiCommit rfl (by simp) (by decide) fun g4 w3 hx3 hg4 hB4 => ?_   -- alloc 31; store 31 t4 t14
  have hlt4 := hB4.lt; have hz3 := hx3.size
  have hM4 := hB4.mem; have hz3 := hx3.size; have hE := hE.thenExt hx3
  refine WL.val (Y.assign rfl) (by decide) ?_   -- t5 := assign t15
  refine WL.nil ?_
  refine hK3 _ _ ?_; try clear hK3 K3
  refine CW.seq fun K4 hK4 => ?_
  refine CW.region ?_   -- region 3
  refine WL.val (Y.move rfl) (by decide) ?_   -- t17 := move t0
  refine WL.val (Y.bytes_string Try.underlying35 Try.underlying5 Try.underlying9 rfl hbl.1 (hb0.ext hE).mem.1 hb0.mem.2) (by decide) ?_   -- t18 := convert 35 9 t17
  refine WL.call Try.func21 rfl rfl rfl ((by have := rDecode_any (bs b) w3 (by rw [bs_size]; omega); rw [bs_toList] at this; exact this)) (by simp) ?_; rintro v19 w4 hR4   -- t19 := call F21(t18) : 9
  obtain ⟨pv2, ov2, rfl, hx4, hP2, hQ2, hfp2, hfo2⟩ := hR4
  have hz4 := hx4.size
  have hE := hE.thenExt hx4
  have hB4 := hB4.ext hx4
  obtain ⟨Ap2, cp2, rfl, _, _⟩ := hP2.lens
  obtain ⟨Ao2, co2, rfl, _, _⟩ := hQ2.lens
  refine WL.val (Y.move rfl) (by decide) ?_   -- t16 := move t19
  refine WL.val (Y.extract rfl rfl) (by decide) ?_   -- t20 := extract t16 0
  refine WL.val (Y.extract rfl rfl) (by decide) ?_   -- t21 := extract t16 1
  refine as_apiCommit rfl (by simp) (by decide) fun g6 w5 hx5 hg6 hB6 => ?_   -- alloc 31; store 31 t6 t20
  have hlt6 := hB6.lt; have hz5 := hx5.size
  have hM6 := hB6.mem; have hz5 := hx5.size; have hE := hE.thenExt hx5; have hB4 := hB4.ext hx5
  refine WL.val (Y.assign rfl) (by decide) ?_   -- t7 := assign t21
  refine WL.nil ?_
  refine hK4 _ _ ?_; try clear hK4 K4
  refine CW.seq fun K5 hK5 => ?_
  refine CW.seq_testE 36 (False) ?_ ?_
  · refine CW.region ?_
    refine WL.val (Y.load Try.underlying31 rfl hB4.mem (sz_apiCommit _ _ _ _) rfl) (by decide) ?_   -- t22 := load 31 t4
    refine WL.val (Y.load Try.underlying31 rfl hB6.mem (sz_apiCommit _ _ _ _) rfl) (by decide) ?_   -- t23 := load 31 t6
    refine WL.call Try.func22 rfl rfl rfl (rSame_any _ _ (decC b) (decC b) _ ⟨_, _, rfl, hP1.ext ((hx3.thenExt hx4).thenExt hx5), hQ1.ext ((hx3.thenExt hx4).thenExt hx5), decC_max.1, decC_max.2⟩ ⟨_, _, rfl, hP2.ext hx5, hQ2.ext hx5, decC_max.1, decC_max.2⟩) (by simp) ?_; rintro v w6 ⟨rfl, hx6⟩; have hz6 := hx6.size; have hE := hE.thenExt hx6; have hB4 := hB4.ext hx6; have hB6 := hB6.ext hx6   -- t24 := call F22(t22, t23) : 31,31
    refine WL.val (Y.not rfl) (by decide) ?_   -- t25 := unOp not 4 t24
    refine WL.val (Y.move rfl) (by decide) ?_   -- t26 := move t25
    refine WL.know (d := 26) (u := .bool false) rfl (by rw [sameB_self]; rfl) ?_
    refine WL.gval rfl rfl (Y.move rfl) (by decide) ?_   -- t27 := move t5 [if 4=false]
    refine WL.gval rfl rfl (Y.move rfl) (by decide) ?_   -- t28 := move t7 [if 4=false]
    refine WL.gval rfl rfl (Y.neq rfl rfl) (by decide) ?_   -- t29 := binOp neq 3 t27 t28 3 [if 4=false]
    refine WL.val (Y.pick rfl rfl) (by decide) ?_   -- t30 := pick t26 c(true) t29
    refine WL.val (Y.move rfl) (by decide) ?_   -- t31 := move t30
    refine WL.know (d := 31) (u := .bool false) rfl (by rw [decide_eq_false (by simp)]) ?_
    refine WL.gval rfl rfl (Y.move rfl) (by decide) ?_   -- t32 := move t3 [if 9=false]
    refine WL.gval rfl rfl (Y.move rfl) (by decide) ?_   -- t33 := move t0 [if 9=false]
    refine WL.gcall rfl rfl Try.func23 rfl rfl rfl (held_any g cx _ b _ (hO.ext ((((hx2.thenExt hx3).thenExt hx4).thenExt hx5).thenExt hx6)) (hb0.ext hE)) (by decide) ?_; rintro v w7 ⟨rfl, hx7⟩; have hz7 := hx7.size; have hE := hE.thenExt hx7; have hB4 := hB4.ext hx7; have hB6 := hB6.ext hx7   -- t34 := call F23(t32, t33) : 35,35 [if 9=false]
    refine WL.gval rfl rfl (Y.not rfl) (by decide) ?_   -- t35 := unOp not 4 t34 [if 9=false]
    refine WL.val (Y.pick rfl rfl) (by decide) ?_   -- t36 := pick t31 c(true) t35
    refine WL.nil ⟨⟨_, rfl, ?_⟩, (hx6.thenExt hx7), (by repeat (first | exact Fr.le.refl | refine Fr.le.push rfl ?_))⟩
    first | (simp only [*, Bool.not_eq_true', decide_eq_false_iff_not, decide_eq_true_eq, not_true_eq_false, not_false_eq_true, true_and, false_and, and_true, and_false, false_or, or_false, true_or, or_true, iff_true, true_iff, iff_false, false_iff]; done) | (simp_all; done) | (simp_all; omega)
  intro w8 hx8; have hz8 := hx8.size; have hE := hE.thenExt hx8; have hB4 := hB4.ext hx8; have hB6 := hB6.ext hx8
  first | refine CW.condD rfl (fun ht6 => ?_) (fun ht6 => ?_) | refine CW.condND rfl (fun ht6 => ?_) (fun ht6 => ?_) | refine CW.condN rfl (fun ht6 => ?_) (fun ht6 => ?_) | refine CW.cond rfl (fun ht6 => ?_) (fun ht6 => ?_)
  · -- then
    refine CW.seq fun K7 hK7 => ?_
    refine CW.region ?_   -- region 5
    refine WL.val (Y.assign rfl) (by decide) ?_   -- t2 := assign c(false)
    refine WL.nil ?_
    refine hK7 _ _ ?_; try clear hK7 K7
    refine CW.ret ⟨_, rfl, ?_⟩
    exact False.elim (by assumption)
  -- else
  refine CW.skip ?_
  refine hK5 _ _ ?_; try clear hK5 K5
  refine CW.seq fun K8 hK8 => ?_
  refine CW.seq fun K9 hK9 => ?_
  refine CW.region ?_   -- region 6
  refine WL.val (Y.move rfl) (by decide) ?_   -- t37 := move t3
  refine WL.val (Y.len_slice Try.underlying35 rfl) (by decide) ?_   -- t38 := call len(t37) : 35
  refine WL.val (Y.move rfl) (by decide) ?_   -- t39 := move c(0:i64)
  refine WL.nil ?_
  refine hK9 _ _ ?_; try clear hK9 K9
  refine CW.block ?_   -- block 0
  refine CW.loop (X := Nat × List UInt8) (fun x => [(0, .slice A m c), (3, .slice (some ⟨g, 0, none⟩) b.length cx), (4, .pointer (some ⟨g4, 0, none⟩)), (6, .pointer (some ⟨g6, 0, none⟩)), (38, .int .i64 (b.length : Int)), (39, .int .i64 (x.1 : Int))]) (fun x w0 => x.1 ≤ b.length ∧ x.2.length = b.length + 2 ∧ Ext w w0 ∧ Blk w0 g4 TC (comC (.slice Ap1 (decC b).parents.length cp1) (decC b).author (decC b).note (.slice Ao1 (decC b).ops.length co1)) ∧ Blk w0 g6 TC (comC (.slice Ap2 (decC b).parents.length cp2) (decC b).author (decC b).note (.slice Ao2 (decC b).ops.length co2)) ∧ Own w0 5 1 (.slice (some ⟨g, 0, none⟩) (b.length + 2) cx) (bytesC x.2) ∧ Sl w0 digC 32 (.slice Ap1 (decC b).parents.length cp1) (decC b).parents ∧ Sl w0 opC 37 (.slice Ao1 (decC b).ops.length co1) (decC b).ops ∧ Sl w0 digC 32 (.slice Ap2 (decC b).parents.length cp2) (decC b).parents ∧ Sl w0 opC 37 (.slice Ao2 (decC b).ops.length co2) (decC b).ops) (fun x => b.length - x.1) (0, b ++ [77, 78]) (by repeat (first | exact Fr.le.nil | refine Fr.le.cons rfl ?_)) ⟨Nat.zero_le _, by simp, hE, hB4, hB6, hO.ext ((((hx2.thenExt hx3).thenExt hx4).thenExt hx5).thenExt hx8), hP1.ext (((hx3.thenExt hx4).thenExt hx5).thenExt hx8), hQ1.ext (((hx3.thenExt hx4).thenExt hx5).thenExt hx8), hP2.ext (hx5.thenExt hx8), hQ2.ext (hx5.thenExt hx8)⟩ ?_
  intro x w9 hl9
  clear hO hP1 hQ1 hP2 hQ2
  obtain ⟨i, ys⟩ := x
  dsimp only at hl9 ⊢
  obtain ⟨hi, hyl, hE, hB4, hB6, hO, hP1, hQ1, hP2, hQ2⟩ := hl9
  refine CW.seq fun K10 hK10 => ?_
  refine CW.region ?_   -- region 7
  refine WL.val (Y.lss rfl rfl) (by decide) ?_   -- t40 := binOp lss 3 t39 t38 3
  refine WL.nil ?_
  refine hK10 _ _ ?_; try clear hK10 K10
  refine CW.seq fun K11 hK11 => ?_
  first | refine CW.condD rfl (fun ht12 => ?_) (fun ht12 => ?_) | refine CW.condND rfl (fun ht12 => ?_) (fun ht12 => ?_) | refine CW.condN rfl (fun ht12 => ?_) (fun ht12 => ?_) | refine CW.cond rfl (fun ht12 => ?_) (fun ht12 => ?_)
  · -- then
    refine CW.skip ?_
    refine hK11 _ _ ?_; try clear hK11 K11
    refine CW.seq fun K13 hK13 => ?_
    refine CW.block ?_   -- block 1
    refine CW.seq fun K14 hK14 => ?_
    refine CW.region ?_   -- region 8
    refine WL.val (Y.move rfl) (by decide) ?_   -- t41 := move t39
    refine WL.val (Y.assign rfl) (by decide) ?_   -- t8 := assign t41
    refine WL.nil ?_
    refine hK14 _ _ ?_; try clear hK14 K14
    refine CW.region ?_   -- region 9
    refine WL.val (Y.move rfl) (by decide) ?_   -- t42 := move t3
    refine WL.val (Y.move rfl) (by decide) ?_   -- t43 := move t8
    obtain ⟨y, hy⟩ : ∃ y, ys[i]? = some y := ⟨_, List.getElem?_eq_getElem (by omega)⟩
    obtain ⟨z, hz⟩ : ∃ z : UInt8, IntKind.u8.wrap ((y.toNat : Int) + 1) = (z.toNat : Int) := ⟨UInt8.ofNat (y.toNat + 1), by have := u8_of (y.toNat + 1); simpa using this⟩
    have hsp := bytes_split hy
    refine WL.val (Y.indexAddrN Try.underlying35 rfl rfl sz0_uint8 (by omega)) (by decide) ?_   -- t44 := indexAddr 35 t42 t43
    refine WL.val (Y.load1 Try.underlying5 rfl (by obtain ⟨a, h, hm⟩ := hO.by.mem.1 (by omega); injection h with h; subst h; rw [Nat.mul_one]; exact hm _ _ (bytesC_get hy)) rfl) (by decide) ?_   -- t45 := load 5 t44
    refine WL.val (Y.add_k rfl rfl) (by decide) ?_   -- t46 := binOp add 5 t45 c(1:u8) 5
    refine WL.val (Y.indexAddrN Try.underlying35 rfl rfl sz0_uint8 (by omega)) (by decide) ?_   -- t47 := indexAddr 35 t42 t43
    refine WL.storeO (g := g) (pre := bytesC (ys.take i)) (old := [bc y]) (post := bytesC (ys.drop (i + 1))) (new := [.int .u8 (IntKind.u8.wrap ((y.toNat : Int) + 1))]) rfl (by rw [add_zero']; simp [bytesC_length]; omega) rfl rfl (by kernel_rfl) (by rw [← hsp]; exact hO) (by first | rfl | (simp [digC_length, opC_length]; done) | (simp only [digC_length, opC_length]; omega)) (one1 rfl) (fun w10 hc10 hB10_ => ?_)   -- _ := store 5 t47 t46
    have hz10 := hc10.size; have hE := hE.step hc10 (fun k h => by omega); have hB4 := hB4.chg hc10 (fun h => by omega); have hB6 := hB6.chg hc10 (fun h => by omega)
    rw [hz] at hB10_
    have hO10 : Own w10 5 1 (.slice (some ⟨g, 0, none⟩) (b.length + 2) cx) (bytesC (ys.take i ++ z :: ys.drop (i + 1))) := by
      have e : bytesC (ys.take i ++ z :: ys.drop (i + 1)) = bytesC (ys.take i) ++ [bc z] ++ bytesC (ys.drop (i + 1)) := by simp [bytesC]
      rw [e]; exact hB10_
    have hP1 := hP1.chg hc10 (fun k hk h => by have := hfp1 k hk; omega)
    have hQ1 := hQ1.chg hc10 (fun k hk h => by have := hfo1 k hk; omega)
    have hP2 := hP2.chg hc10 (fun k hk h => by have := hfp2 k hk; omega)
    have hQ2 := hQ2.chg hc10 (fun k hk h => by have := hfo2 k hk; omega)
    refine WL.nil ?_
    refine hK13 _ _ ?_; try clear hK13 K13
    refine CW.region ?_   -- region 10
    refine WL.val (Y.add rfl rfl ⟨by omega, by omega⟩) (by decide) ?_   -- t48 := binOp add 3 t39 c(1:i64) 3
    refine WL.val (Y.move rfl) (by decide) ?_   -- t39 := move t48
    refine WL.nil ?_
    refine ⟨(i + 1, ys.take i ++ z :: ys.drop (i + 1)), by show b.length - (i + 1) < b.length - i; omega, (by repeat (first | exact Fr.le.nil | refine Fr.le.cons rfl ?_)), by show i + 1 ≤ _; omega, ?_, hE, hB4, hB6, hO10, hP1, hQ1, hP2, hQ2⟩
    simp only [List.length_append, List.length_take, List.length_cons, List.length_drop]
    omega
  -- else
  refine CW.exit ?_   -- exit 0
  refine hK8 _ _ ?_; try clear hK8 K8
  refine CW.seq fun K15 hK15 => ?_
  refine CW.region ?_   -- region 11
  refine WL.val (Y.load Try.underlying31 rfl hB4.mem (sz_apiCommit _ _ _ _) rfl) (by decide) ?_   -- t49 := load 31 t4
  refine WL.val (Y.load Try.underlying31 rfl hB6.mem (sz_apiCommit _ _ _ _) rfl) (by decide) ?_   -- t50 := load 31 t6
  refine WL.call Try.func22 rfl rfl rfl (rSame_any _ _ (decC b) (decC b) _ ⟨_, _, rfl, hP1, hQ1, decC_max.1, decC_max.2⟩ ⟨_, _, rfl, hP2, hQ2, decC_max.1, decC_max.2⟩) (by simp) ?_; rintro v w11 ⟨rfl, hx11⟩; have hz11 := hx11.size; have hE := hE.thenExt hx11; have hB4 := hB4.ext hx11; have hB6 := hB6.ext hx11   -- t51 := call F22(t49, t50) : 31,31
  refine WL.val (Y.move rfl) (by decide) ?_   -- t52 := move t51
  refine WL.know (d := 52) (u := .bool true) rfl (by rw [sameB_self]) ?_
  refine WL.gcall rfl rfl Try.func14 rfl rfl rfl (alive_any _) (by decide) ?_; rintro v w12 ⟨rfl, hx12⟩; have hz12 := hx12.size; have hE := hE.thenExt hx12; have hB4 := hB4.ext hx12; have hB6 := hB6.ext hx12   -- t53 := call F14() :  [if 3=true]
  refine WL.val (Y.pick rfl rfl) (by decide) ?_   -- t54 := pick t52 t53 c(false)
  refine WL.val (Y.assign rfl) (by decide) ?_   -- t2 := assign t54
  refine WL.nil ?_
  refine hK15 _ _ ?_; try clear hK15 K15
  refine CW.ret ⟨_, rfl, ?_⟩
  exact ⟨rfl, hE⟩
end Go.Proofs.Ytfbagecopapfhaa
