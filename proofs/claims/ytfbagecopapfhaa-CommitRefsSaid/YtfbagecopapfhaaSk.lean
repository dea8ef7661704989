/- The law CommitRefs, walked. No condition. -/
import Derived.Test.YtfbagecopapfhaaSj
set_option linter.unusedSimpArgs false
set_option linter.unusedVariables false
namespace Go.Proofs.Ytfbagecopapfhaa
open Go.RowKit Go.Fw Go.Pl
theorem flat_split {xs : List Dig} {x : Nat} {y : Dig} (h : xs[x]? = some y) : flatD xs = flatD (xs.take x) ++ digC y ++ flatD (xs.drop (x + 1)) := by
  obtain ⟨hlt, rfl⟩ := List.getElem?_eq_some_iff.1 h
  have e : xs = xs.take x ++ xs[x] :: xs.drop (x + 1) := by rw [← List.drop_eq_getElem_cons hlt, List.take_append_drop]
  calc flatD xs = flatD (xs.take x ++ xs[x] :: xs.drop (x + 1)) := congrArg flatD e
    _ = _ := by simp only [flatD, List.map_append, List.map_cons, List.flatten_append, List.flatten_cons, List.append_assoc]

set_option maxRecDepth 20000 in
theorem commitRefs_any (u : Value) (c : ComD) (w : World) (hc : Com w u c) (hp : c.ops.length * 32 ≤ 140737488351232) : Calls Try.prog 11 #[u] w (Ret (True_ w)) := by
  obtain ⟨pv, ov, rfl, hpp, hoo, hau, hno⟩ := hc
  obtain ⟨Ap, cp, rfl, _, _⟩ := hpp.lens
  obtain ⟨Ao, co, rfl, hco1, hco2⟩ := hoo.lens
  unfold maxLen at hco2
  refine calls_of_CW 30 [2] [(0, .agg (comC (.slice Ap c.parents.length cp) c.author c.note (.slice Ao c.ops.length co)).toArray)] Try.func11 rfl rfl rfl (by simp) args1 ?_
  have hE : Ext w w := Chg.refl
  refine CW.seq fun K1 hK1 => ?_
  refine CW.region ?_   -- region 0
  refine WL.box rfl rfl (by decide) fun g1 w1 hx1 hg1 hB1 => ?_   -- t1 := box 31 t0
  have hlt1 := hB1.lt; have hz1 := hx1.size
  have hM1 := hB1.mem; have hz1 := hx1.size; have hE := hE.thenExt hx1
  refine WL.val (Y.assign rfl) (by decide) ?_   -- t2 := assign c(false)
  refine WL.nil ?_
  refine hK1 _ _ ?_; try clear hK1 K1
  refine CW.seq fun K2 hK2 => ?_
  refine CW.region ?_   -- region 1
  refine WL.val (Y.load Try.underlying31 rfl hB1.mem (sz_apiCommit _ _ _ _) rfl) (by decide) ?_   -- t5 := load 31 t1
  refine WL.call Try.func27 rfl rfl rfl (refs_any _ c _ ⟨_, _, rfl, hpp.ext hE, hoo.ext hE, hau, hno⟩ hp) (by simp) ?_; rintro v6 w2 hR2   -- t6 := call F27(t5) : 31
  obtain ⟨hO6, hf6, hx2⟩ := hR2
  have hz2 := hx2.size
  have hE := hE.thenExt hx2
  have hB1 := hB1.ext hx2
  obtain ⟨A6, m6, c6, rfl⟩ := hO6.lens
  obtain ⟨hlen6, hmc6, hcm6⟩ := hO6.len digC_length (by decide)
  unfold maxLen at hcm6
  refine WL.val (Y.assign rfl) (by decide) ?_   -- t3 := assign t6
  refine WL.nil ?_
  refine hK2 _ _ ?_; try clear hK2 K2
  refine CW.seq fun K3 hK3 => ?_
  refine CW.seq fun K4 hK4 => ?_
  refine CW.region ?_   -- region 2
  refine WL.val (Y.move rfl) (by decide) ?_   -- t7 := move t3
  refine WL.val (Y.load Try.underlying31 rfl hB1.mem (sz_apiCommit _ _ _ _) rfl) (by decide) ?_   -- t8 := load 31 t1
  refine WL.call Try.func29 rfl rfl rfl (rRefs_any _ c _ ⟨_, _, rfl, hpp.ext hE, hoo.ext hE, hau, hno⟩ hp) (by simp) ?_; rintro v9 w3 hR3   -- t9 := call F29(t8) : 31
  obtain ⟨hO9, hf9, hx3⟩ := hR3
  have hz3 := hx3.size
  have hE := hE.thenExt hx3
  have hB1 := hB1.ext hx3
  refine WL.call Try.func28 rfl rfl rfl (rSameD_any _ _ _ _ _ ((hO6.ext hx3).sl digC_length (by decide)) (hO9.sl digC_length (by decide))) (by simp) ?_; rintro v w4 ⟨rfl, hx4⟩; have hz4 := hx4.size; have hE := hE.thenExt hx4; have hB1 := hB1.ext hx4   -- t10 := call F28(t7, t9) : 29,29
  refine WL.val (Y.not rfl) (by decide) ?_   -- t11 := unOp not 4 t10
  refine WL.nil ?_
  refine hK4 _ _ ?_; try clear hK4 K4
  first | refine CW.condD rfl (fun ht5 => ?_) (fun ht5 => ?_) | refine CW.condND rfl (fun ht5 => ?_) (fun ht5 => ?_) | refine CW.condN rfl (fun ht5 => ?_) (fun ht5 => ?_) | refine CW.cond rfl (fun ht5 => ?_) (fun ht5 => ?_)
  · -- then
    refine CW.seq fun K6 hK6 => ?_
    refine CW.region ?_   -- region 3
    refine WL.val (Y.assign rfl) (by decide) ?_   -- t2 := assign c(false)
    refine WL.nil ?_
    refine hK6 _ _ ?_; try clear hK6 K6
    refine CW.ret ⟨_, rfl, ?_⟩
    exact absurd (refs_law c.ops) (by assumption)
  -- else
  refine CW.skip ?_
  refine hK3 _ _ ?_; try clear hK3 K3
  refine CW.seq fun K7 hK7 => ?_
  refine CW.seq fun K8 hK8 => ?_
  refine CW.region ?_   -- region 4
  refine WL.val (Y.move rfl) (by decide) ?_   -- t12 := move t3
  refine WL.val (Y.len_slice Try.underlying29 rfl) (by decide) ?_   -- t13 := call len(t12) : 29
  refine WL.val (Y.move rfl) (by decide) ?_   -- t14 := move c(0:i64)
  refine WL.nil ?_
  refine hK8 _ _ ?_; try clear hK8 K8
  refine CW.block ?_   -- block 0
  refine CW.loop (X := Nat) (fun x => [(1, .pointer (some ⟨g1, 0, none⟩)), (3, .slice A6 m6 c6), (13, .int .i64 (m6 : Int)), (14, .int .i64 (x : Int))]) (fun x w0 => x ≤ m6 ∧ Ext w w0 ∧ Blk w0 g1 TCo (comC (.slice Ap c.parents.length cp) c.author c.note (.slice Ao c.ops.length co)) ∧ ∃ xs : List Dig, Own w0 TDg 32 (.slice A6 m6 c6) (flatD xs)) (fun x => m6 - x) 0 (by repeat (first | exact Fr.le.nil | refine Fr.le.cons rfl ?_)) ⟨Nat.zero_le _, hE, hB1, _, hO6.ext (hx3.thenExt hx4)⟩ ?_
  intro x w5 hl5
  obtain ⟨hx, hE, hB1, xs, hO⟩ := hl5
  refine CW.seq fun K9 hK9 => ?_
  refine CW.region ?_   -- region 5
  refine WL.val (Y.lss rfl rfl) (by decide) ?_   -- t15 := binOp lss 3 t14 t13 3
  refine WL.nil ?_
  refine hK9 _ _ ?_; try clear hK9 K9
  refine CW.seq fun K10 hK10 => ?_
  first | refine CW.condD rfl (fun ht11 => ?_) (fun ht11 => ?_) | refine CW.condND rfl (fun ht11 => ?_) (fun ht11 => ?_) | refine CW.condN rfl (fun ht11 => ?_) (fun ht11 => ?_) | refine CW.cond rfl (fun ht11 => ?_) (fun ht11 => ?_)
  · -- then
    refine CW.skip ?_
    refine hK10 _ _ ?_; try clear hK10 K10
    refine CW.seq fun K12 hK12 => ?_
    refine CW.block ?_   -- block 1
    refine CW.seq fun K13 hK13 => ?_
    refine CW.region ?_   -- region 6
    refine WL.val (Y.move rfl) (by decide) ?_   -- t16 := move t14
    refine WL.val (Y.assign rfl) (by decide) ?_   -- t4 := assign t16
    refine WL.nil ?_
    refine hK13 _ _ ?_; try clear hK13 K13
    refine CW.region ?_   -- region 7
    refine WL.val (Y.move rfl) (by decide) ?_   -- t17 := move t3
    refine WL.val (Y.move rfl) (by decide) ?_   -- t18 := move t4
    refine WL.val (Y.build0 (build_apiDigest _)) (by decide) ?_   -- t19 := build 51 []
    obtain ⟨hlen, hmc, hcm⟩ := hO.len digC_length (by decide)
    obtain ⟨y, hy⟩ : ∃ y, xs[x]? = some y := ⟨_, List.getElem?_eq_getElem (by omega)⟩
    have hsp := flat_split hy
    obtain ⟨g, rfl, hgl⟩ := hO.head (by
      intro h
      have := congrArg List.length h
      rw [flat_length digC_length, List.length_nil] at this
      omega)
    have hfg := hf6 g rfl
    refine WL.val (Y.indexAddrN Try.underlying29 rfl rfl sz0_apiDigest (by omega)) (by decide) ?_   -- t20 := indexAddr 29 t17 t18
    refine WL.storeO (g := g) (pre := flatD (xs.take x)) (old := digC y) (post := flatD (xs.drop (x + 1))) (new := digC Dig.zero) rfl (by rw [add_zero', flat_length digC_length, List.length_take, Nat.min_eq_left (by omega)]) rfl rfl (sz_apiDigest _) (by rw [← hsp]; exact hO) (by first | rfl | (simp [digC_length, opC_length]; done) | (simp only [digC_length, opC_length]; omega)) (one_digC) (fun w6 hc6 hB6_ => ?_)   -- _ := store 51 t20 t19
    have hz6 := hc6.size; have hE := hE.step hc6 (fun k h => by omega); have hB1 := hB1.chg hc6 (fun h => by omega)
    have hO := (show Own w6 TDg 32 (.slice (some ⟨g, 0, none⟩) m6 c6) (flatD (xs.take x ++ Dig.zero :: xs.drop (x + 1))) by
      have e : flatD (xs.take x ++ Dig.zero :: xs.drop (x + 1)) = flatD (xs.take x) ++ digC Dig.zero ++ flatD (xs.drop (x + 1)) := by simp [flatD]
      rw [e]; exact hB6_)
    refine WL.nil ?_
    refine hK12 _ _ ?_; try clear hK12 K12
    refine CW.region ?_   -- region 8
    refine WL.val (Y.add rfl rfl ⟨by omega, by omega⟩) (by decide) ?_   -- t21 := binOp add 3 t14 c(1:i64) 3
    refine WL.val (Y.move rfl) (by decide) ?_   -- t14 := move t21
    refine WL.nil ?_
    refine ⟨x + 1, by show m6 - (x + 1) < m6 - x; omega, (by repeat (first | exact Fr.le.nil | refine Fr.le.cons rfl ?_)), by show x + 1 ≤ m6; omega, hE, hB1, _, hO⟩
  -- else
  refine CW.exit ?_   -- exit 0
  refine hK7 _ _ ?_; try clear hK7 K7
  refine CW.seq fun K14 hK14 => ?_
  refine CW.held (fun wq => Ext w5 wq) (by kernel_rfl) 9 rfl fun w7 hS => ?_
  refine RH.take 0 (fun _ _ _ _ h => h) (by kernel_rfl) hS rfl (by kernel_rfl) (by kernel_rfl) (fun wq hq => Y.load Try.underlying31 rfl (hB1.ext hq).mem (sz_apiCommit _ _ _ _) rfl) (by decide) ?_   -- t22 := load 31 t1
  refine RH.take 2 (fun _ _ _ _ h => h) (by kernel_rfl) hS rfl (by kernel_rfl) (by kernel_rfl) (fun wq hq => Y.load Try.underlying31 rfl (hB1.ext hq).mem (sz_apiCommit _ _ _ _) rfl) (by decide) ?_   -- t24 := load 31 t1
  refine RH.one 1 (by kernel_rfl) ?_
  refine RS.call rfl (fun _ _ h => by cases h) Try.func27 rfl rfl rfl (refs_any _ c _ ⟨_, _, rfl, hpp.ext (hE.thenExt hS), hoo.ext (hE.thenExt hS), hau, hno⟩ hp) (by decide) fun v23 w8 hR8 => ?_   -- call F27(t22) : 31
  obtain ⟨hO23, hf23, hy8⟩ := hR8
  have hS := hS.thenExt hy8
  refine ⟨hS, ?_⟩
  refine RH.one 3 (by kernel_rfl) ?_
  refine RS.call rfl (fun _ _ h => by cases h) Try.func29 rfl rfl rfl (rRefs_any _ c _ ⟨_, _, rfl, hpp.ext (hE.thenExt hS), hoo.ext (hE.thenExt hS), hau, hno⟩ hp) (by decide) fun v25 w9 hR9 => ?_   -- call F29(t24) : 31
  obtain ⟨hO25, hf25, hy9⟩ := hR9
  have hS := hS.thenExt hy9
  refine ⟨hS, ?_⟩
  refine RH.one 4 (by kernel_rfl) ?_
  refine RS.call rfl (fun _ _ h => by cases h) Try.func28 rfl rfl rfl (rSameD_any _ _ _ _ _ ((hO23.ext hy9).sl digC_length (by decide)) (hO25.sl digC_length (by decide))) (by decide) fun v26 w10 hR10 => ?_   -- call F28(t23, t25) : 29,29
  obtain ⟨rfl, hy10⟩ := hR10
  have hS := hS.thenExt hy10
  refine ⟨hS, ?_⟩
  refine RH.take 5 (fun _ _ _ _ h => h) (by kernel_rfl) hS rfl (by kernel_rfl) (by kernel_rfl) (fun wq hq => Y.move rfl) (by decide) ?_   -- t27 := move t26
  refine RH.know (d := 27) (u := .bool true) rfl (by rw [decide_eq_true (refs_law c.ops)]) ?_
  refine RH.one 6 (by kernel_rfl) ?_
  refine RS.call rfl (fun _ _ h => by cases h; exact ⟨_, rfl, rfl⟩) Try.func14 rfl rfl rfl (alive_any _) (by decide) fun v28 w11 hR11 => ?_   -- call F14() : 
  obtain ⟨rfl, hy11⟩ := hR11
  have hS := hS.thenExt hy11
  refine ⟨hS, ?_⟩
  refine RH.take 7 (fun _ _ _ _ h => h) (by kernel_rfl) hS rfl (by kernel_rfl) (by kernel_rfl) (fun wq hq => Y.pick rfl rfl) (by decide) ?_   -- t29 := pick t27 t28 c(false)
  refine RH.take 8 (fun _ _ _ _ h => h) (by kernel_rfl) hS rfl (by kernel_rfl) (by kernel_rfl) (fun wq hq => Y.assign rfl) (by decide) ?_   -- t2 := assign t29
  refine RH.done (by kernel_rfl) ?_
  have hx12 := hS; have hz12 := hx12.size; have hE := hE.thenExt hx12; have hB1 := hB1.ext hx12
  refine hK14 _ _ ?_; try clear hK14 K14
  refine CW.ret ⟨_, rfl, ?_⟩
  exact ⟨rfl, hE⟩
end Go.Proofs.Ytfbagecopapfhaa
