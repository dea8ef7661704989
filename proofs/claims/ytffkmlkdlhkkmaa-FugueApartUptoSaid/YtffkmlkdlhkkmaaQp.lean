/- Fugue's tree: order, wrong, walked. No condition. -/
import Derived.Test.YtffkmlkdlhkkmaaQn
import Derived.Test.YtffkmlkdlhkkmaaRt
set_option linter.unusedSimpArgs false
set_option linter.unusedVariables false
namespace Go.Proofs.Ytffkmlkdlhkkmaa
open Go.RowKit Go.Fw Go.Fu Go.Pl
/-- What order says of two names. -/
noncomputable def ordI (a b : RefD) : Int := if a.c = b.c then a.n - b.n else if lessB a.c b.c = true then -1 else 1

theorem forder_any (a b : Nat) (x y : El) (lv rv lv' rv' : Value) (w : World) (hBa : Blk w a TN (nodeC x lv rv)) (hBb : Blk w b TN (nodeC y lv' rv')) (hi : InI64 (x.name.n - y.name.n)) : Calls Try.prog 40 #[.pointer (some ⟨a, 0, none⟩), .pointer (some ⟨b, 0, none⟩)] w (Ret fun v w' => v = .int .i64 (ordI x.name y.name) ∧ Ext w w') := by
  refine calls_of_CW 40 [4] [(0, .pointer (some ⟨a, 0, none⟩)), (1, .pointer (some ⟨b, 0, none⟩))] Try.func40 rfl rfl rfl (by simp) args2 ?_
  have hE : Ext w w := Chg.refl
  refine CW.seq fun K1 hK1 => ?_
  refine CW.region ?_   -- region 0
  refine WL.val (Y.assign rfl) (by decide) ?_   -- t4 := assign c(0:i64)
  refine WL.nil ?_
  refine hK1 _ _ ?_; try clear hK1 K1
  refine CW.seq fun K2 hK2 => ?_
  refine CW.block ?_   -- block 0
  refine CW.seq fun K3 hK3 => ?_
  refine CW.quiet (fun wq => Ext w wq) (by kernel_rfl) (by kernel_rfl) Chg.drew ?_
  refine QL.val (fun wq hq => Y.move rfl) (by decide) ?_   -- t6 := move t0
  refine QL.val (fun wq hq => Y.nilCheck rfl) (by decide) ?_   -- t7 := nilCheck t6
  refine QL.val (fun wq hq => Y.fieldAddr fo_fuguenode0 rfl) (by decide) ?_   -- t8 := fieldAddr 96 t7 0
  refine QL.val (fun wq hq => Y.fieldAddr fo_apiRef1 rfl) (by decide) ?_   -- t9 := fieldAddr 49 t8 1
  refine QL.val (fun wq hq => Y.load Try.underlying24 rfl (hBa.ext hq).mem.fuguenode0.ref1 (sz_apiDigest _) rfl) (by decide) ?_   -- t10 := load 24 t9
  refine QL.val (fun wq hq => Y.move rfl) (by decide) ?_   -- t11 := move t1
  refine QL.val (fun wq hq => Y.nilCheck rfl) (by decide) ?_   -- t12 := nilCheck t11
  refine QL.val (fun wq hq => Y.fieldAddr fo_fuguenode0 rfl) (by decide) ?_   -- t13 := fieldAddr 96 t12 0
  refine QL.val (fun wq hq => Y.fieldAddr fo_apiRef1 rfl) (by decide) ?_   -- t14 := fieldAddr 49 t13 1
  refine QL.val (fun wq hq => Y.load Try.underlying24 rfl (hBb.ext hq).mem.fuguenode0.ref1 (sz_apiDigest _) rfl) (by decide) ?_   -- t15 := load 24 t14
  refine QL.val (fun wq hq => Y.eql_apiDigest rfl rfl) (by decide) ?_   -- t16 := binOp eql 24 t10 t15 24
  refine QL.val (fun wq hq => Y.assign rfl) (by decide) ?_   -- t5 := assign t16
  refine QL.nil fun w1 hx1 => ?_
  have hz1 := hx1.size
  have hE := hE.thenExt hx1
  have hBa := hBa.ext hx1
  have hBb := hBb.ext hx1
  refine hK3 _ _ ?_; try clear hK3 K3
  first | refine CW.condD rfl (fun ht4 => ?_) (fun ht4 => ?_) | refine CW.condND rfl (fun ht4 => ?_) (fun ht4 => ?_) | refine CW.condN rfl (fun ht4 => ?_) (fun ht4 => ?_) | refine CW.cond rfl (fun ht4 => ?_) (fun ht4 => ?_)
  · -- then
    refine CW.seq fun K5 hK5 => ?_
    refine CW.quiet (fun wq => Ext w1 wq) (by kernel_rfl) (by kernel_rfl) Chg.drew ?_
    refine QL.val (fun wq hq => Y.move rfl) (by decide) ?_   -- t17 := move t0
    refine QL.val (fun wq hq => Y.nilCheck rfl) (by decide) ?_   -- t18 := nilCheck t17
    refine QL.val (fun wq hq => Y.fieldAddr fo_fuguenode0 rfl) (by decide) ?_   -- t19 := fieldAddr 96 t18 0
    refine QL.val (fun wq hq => Y.fieldAddr fo_apiRef2 rfl) (by decide) ?_   -- t20 := fieldAddr 49 t19 2
    refine QL.val (fun wq hq => Y.load1 Try.underlying3 rfl (hBa.ext hq).mem.fuguenode0.ref2 rfl) (by decide) ?_   -- t21 := load 3 t20
    refine QL.val (fun wq hq => Y.move rfl) (by decide) ?_   -- t22 := move t1
    refine QL.val (fun wq hq => Y.nilCheck rfl) (by decide) ?_   -- t23 := nilCheck t22
    refine QL.val (fun wq hq => Y.fieldAddr fo_fuguenode0 rfl) (by decide) ?_   -- t24 := fieldAddr 96 t23 0
    refine QL.val (fun wq hq => Y.fieldAddr fo_apiRef2 rfl) (by decide) ?_   -- t25 := fieldAddr 49 t24 2
    refine QL.val (fun wq hq => Y.load1 Try.underlying3 rfl (hBb.ext hq).mem.fuguenode0.ref2 rfl) (by decide) ?_   -- t26 := load 3 t25
    refine QL.val (fun wq hq => Y.sub rfl rfl ⟨by omega, by omega⟩) (by decide) ?_   -- t27 := binOp sub 3 t21 t26 3
    refine QL.val (fun wq hq => Y.assign rfl) (by decide) ?_   -- t4 := assign t27
    refine QL.nil fun w2 hx2 => ?_
    have hz2 := hx2.size
    have hE := hE.thenExt hx2
    have hBa := hBa.ext hx2
    have hBb := hBb.ext hx2
    refine hK5 _ _ ?_; try clear hK5 K5
    refine CW.ret ⟨_, rfl, ?_⟩
    exact ⟨by rw [ordI, if_pos (by assumption)], hE⟩
  -- else
  refine CW.seq fun K6 hK6 => ?_
  refine CW.quiet (fun wq => Ext w1 wq) (by kernel_rfl) (by kernel_rfl) Chg.drew ?_
  refine QL.val (fun wq hq => Y.move rfl) (by decide) ?_   -- t29 := move t0
  refine QL.val (fun wq hq => Y.nilCheck rfl) (by decide) ?_   -- t30 := nilCheck t29
  refine QL.val (fun wq hq => Y.fieldAddr fo_fuguenode0 rfl) (by decide) ?_   -- t31 := fieldAddr 96 t30 0
  refine QL.val (fun wq hq => Y.fieldAddr fo_apiRef1 rfl) (by decide) ?_   -- t32 := fieldAddr 49 t31 1
  refine QL.val (fun wq hq => Y.load Try.underlying24 rfl (hBa.ext hq).mem.fuguenode0.ref1 (sz_apiDigest _) rfl) (by decide) ?_   -- t33 := load 24 t32
  refine QL.val (fun wq hq => Y.move rfl) (by decide) ?_   -- t34 := move t1
  refine QL.val (fun wq hq => Y.nilCheck rfl) (by decide) ?_   -- t35 := nilCheck t34
  refine QL.val (fun wq hq => Y.fieldAddr fo_fuguenode0 rfl) (by decide) ?_   -- t36 := fieldAddr 96 t35 0
  refine QL.val (fun wq hq => Y.fieldAddr fo_apiRef1 rfl) (by decide) ?_   -- t37 := fieldAddr 49 t36 1
  refine QL.val (fun wq hq => Y.load Try.underlying24 rfl (hBb.ext hq).mem.fuguenode0.ref1 (sz_apiDigest _) rfl) (by decide) ?_   -- t38 := load 24 t37
  refine QL.call Try.func55 rfl rfl rfl (fun wq hq => ret_ext (less_any _ _ wq) hq) (by simp) ?_   -- t39 := call F55(t33, t38) : 24,24
  refine QL.val (fun wq hq => Y.assign rfl) (by decide) ?_   -- t28 := assign t39
  refine QL.nil fun w3 hx3 => ?_
  have hz3 := hx3.size
  have hE := hE.thenExt hx3
  have hBa := hBa.ext hx3
  have hBb := hBb.ext hx3
  refine hK6 _ _ ?_; try clear hK6 K6
  first | refine CW.condD rfl (fun ht7 => ?_) (fun ht7 => ?_) | refine CW.condND rfl (fun ht7 => ?_) (fun ht7 => ?_) | refine CW.condN rfl (fun ht7 => ?_) (fun ht7 => ?_) | refine CW.cond rfl (fun ht7 => ?_) (fun ht7 => ?_)
  · -- then
    refine CW.seq fun K8 hK8 => ?_
    refine CW.region ?_   -- region 4
    refine WL.val (Y.assign rfl) (by decide) ?_   -- t4 := assign c(-1:i64)
    refine WL.nil ?_
    refine hK8 _ _ ?_; try clear hK8 K8
    refine CW.ret ⟨_, rfl, ?_⟩
    exact ⟨by rw [ordI, if_neg (by assumption), if_pos (by assumption)], hE⟩
  -- else
  refine CW.skip ?_
  refine hK2 _ _ ?_; try clear hK2 K2
  refine CW.seq fun K9 hK9 => ?_
  refine CW.region ?_   -- region 5
  refine WL.val (Y.assign rfl) (by decide) ?_   -- t4 := assign c(1:i64)
  refine WL.nil ?_
  refine hK9 _ _ ?_; try clear hK9 K9
  refine CW.ret ⟨_, rfl, ?_⟩
  exact ⟨by rw [ordI, if_neg (by assumption), if_neg (by simp_all)], hE⟩
theorem fwrong_any (g rb ra : Nat) (ad : List Dig) (ns : List Nn) (id : Dig) (u : Value) (ops : List OpD) (w : World) (hT : FtAt w g rb ra ad ns) (hG : Fu.Good (els ns)) (hn : ns.length ≤ 400001) (hl : Sl w opC 37 u ops) : Calls Try.prog 37 #[.pointer (some ⟨g, 0, none⟩), digV id, u] w (Ret fun v w' => v = .int .i64 (wrongC ⟨ad, els ns⟩ id ops) ∧ Ext w w') := by
  have hB0 := hT.blk
  have hlo : ∀ k, Fp g rb ra ns k → k < w.heap.size := fun k hk => hT.lt hk
  have hg0 := hB0.lt
  obtain ⟨A, m, c, rfl, hm, hmc, hcm, _⟩ := _root_.id hl
  unfold maxLen at hcm
  have hlo2 := hl
  have hTo := hT
  obtain ⟨cla, la, hMa, _, _, _, hka⟩ := hT.added
  obtain ⟨clb, lb, hMb, _, _, hlb, _⟩ := hT.by_
  have hel : (els ns).length = ns.length := List.length_map _
  obtain ⟨io, hio, hzo, hso⟩ := info_apiOp
  have hik : ∀ k, insN (ops.take k) ≤ k := fun k => by
    have h1 := List.countP_le_length (p := fun x : OpD => decide (x.kind = 1)) (l := ops.take k)
    rw [List.length_take] at h1
    unfold insN; omega
  refine calls_of_CW 85 [6] [(0, .pointer (some ⟨g, 0, none⟩)), (1, digV id), (2, .slice A m c)] Try.func37 rfl rfl rfl (by simp) args3 ?_
  have hE : Ext w w := Chg.refl
  refine CW.seq fun K1 hK1 => ?_
  refine CW.region ?_   -- region 0
  refine WL.box rfl rfl (by decide) fun g4 w1 hx1 hg4 hB4 => ?_   -- t4 := box 24 t1
  have hlt4 := hB4.lt; have hz1 := hx1.size
  have hM4 := hB4.mem; have hz1 := hx1.size; have hE := hE.thenExt hx1; have hT := hT.ext hx1; have hB0 := hB0.ext hx1; have hl := hl.ext hx1
  refine WL.val (Y.assign rfl) (by decide) ?_   -- t6 := assign c(0:i64)
  refine WL.nil ?_
  refine hK1 _ _ ?_; try clear hK1 K1
  refine CW.seq fun K2 hK2 => ?_
  refine CW.seq fun K3 hK3 => ?_
  refine CW.quiet (fun wq => Ext w1 wq) (by kernel_rfl) (by kernel_rfl) Chg.drew ?_
  refine QL.val (fun wq hq => Y.move rfl) (by decide) ?_   -- t16 := move t0
  refine QL.val (fun wq hq => Y.nilCheck rfl) (by decide) ?_   -- t17 := nilCheck t16
  refine QL.val (fun wq hq => Y.fieldAddr fo_fugueTree2 rfl) (by decide) ?_   -- t18 := fieldAddr 91 t17 2
  refine QL.val (fun wq hq => Y.load1 Try.underlying89 rfl (hB0.ext hq).mem.fugueTree2 rfl) (by decide) ?_   -- t19 := load 89 t18
  refine QL.val (fun wq hq => Y.load Try.underlying24 rfl (hB4.ext hq).mem (sz_apiDigest _) rfl) (by decide) ?_   -- t20 := load 24 t4
  refine QL.val (fun wq hq => Y.lookupOk keyDig (fun _ => rfl) UMA zero_int rfl rfl ((hMa.ext hE).ext hq)) (by decide) ?_   -- t21 := lookup 89 t19 t20 true
  refine QL.val (fun wq hq => Y.move rfl) (by decide) ?_   -- t15 := move t21
  refine QL.val (fun wq hq => Y.extract rfl rfl) (by decide) ?_   -- t22 := extract t15 0
  refine QL.val (fun wq hq => Y.extract rfl rfl) (by decide) ?_   -- t23 := extract t15 1
  refine QL.val (fun wq hq => Y.assign rfl) (by decide) ?_   -- t7 := assign t22
  refine QL.val (fun wq hq => Y.assign rfl) (by decide) ?_   -- t8 := assign t23
  refine QL.nil fun w2 hx2 => ?_
  have hz2 := hx2.size
  have hE := hE.thenExt hx2
  have hT := hT.ext hx2
  have hB0 := hB0.ext hx2
  have hl := hl.ext hx2
  have hB4 := hB4.ext hx2
  refine hK3 _ _ ?_; try clear hK3 K3
  refine CW.seq fun K4 hK4 => ?_
  refine CW.region ?_   -- region 2
  refine WL.val (Y.move rfl) (by decide) ?_   -- t24 := move t8
  refine WL.nil ?_
  refine hK4 _ _ ?_; try clear hK4 K4
  first | refine CW.condD rfl (fun ht5 => ?_) (fun ht5 => ?_) | refine CW.condND rfl (fun ht5 => ?_) (fun ht5 => ?_) | refine CW.condN rfl (fun ht5 => ?_) (fun ht5 => ?_) | refine CW.cond rfl (fun ht5 => ?_) (fun ht5 => ?_)
  · -- then
    refine CW.seq fun K6 hK6 => ?_
    refine CW.region ?_   -- region 3
    refine WL.val (Y.assign rfl) (by decide) ?_   -- t6 := assign c(6:i64)
    refine WL.nil ?_
    refine hK6 _ _ ?_; try clear hK6 K6
    refine CW.ret ⟨_, rfl, ?_⟩
    exact ⟨by rw [wrongC, if_pos (of_decide_eq_true ((AE.look hka id).symm.trans (by assumption)))], hE⟩
  -- else
  refine CW.skip ?_
  refine hK2 _ _ ?_; try clear hK2 K2
  refine CW.seq fun K7 hK7 => ?_
  refine CW.region ?_   -- region 4
  refine WL.val (Y.assign rfl) (by decide) ?_   -- t9 := assign c(0:i64)
  refine WL.nil ?_
  refine hK7 _ _ ?_; try clear hK7 K7
  refine CW.seq fun K8 hK8 => ?_
  refine CW.seq fun K9 hK9 => ?_
  refine CW.region ?_   -- region 5
  refine WL.val (Y.move rfl) (by decide) ?_   -- t25 := move t2
  refine WL.val (Y.len_slice Try.underlying35 rfl) (by decide) ?_   -- t26 := call len(t25) : 35
  refine WL.val (Y.move rfl) (by decide) ?_   -- t27 := move c(0:i64)
  refine WL.nil ?_
  refine hK9 _ _ ?_; try clear hK9 K9
  refine CW.block ?_   -- block 0
  refine CW.loop (X := Nat) (fun x => [(0, .pointer (some ⟨g, 0, none⟩)), (2, .slice A m c), (4, .pointer (some ⟨g4, 0, none⟩)), (9, .int .i64 (insN (ops.take x) : Int)), (25, .slice A m c), (26, .int .i64 (m : Int)), (27, .int .i64 (x : Int))]) (fun x w0 => x ≤ m ∧ Ext w w0 ∧ Blk w0 g4 24 (digC id)) (fun x => m - x) 0 (by repeat (first | exact Fr.le.nil | refine Fr.le.cons rfl ?_)) ⟨Nat.zero_le _, hE, hB4⟩ ?_
  intro x w3 hl3
  obtain ⟨hxm, hE, hB4⟩ := hl3
  have hT := hTo.ext hE
  have hB0 := hT.blk
  have hl := hlo2.ext hE
  have hzl := hE.size
  refine CW.seq fun K10 hK10 => ?_
  refine CW.region ?_   -- region 6
  refine WL.val (Y.lss rfl rfl) (by decide) ?_   -- t28 := binOp lss 3 t27 t26 3
  refine WL.nil ?_
  refine hK10 _ _ ?_; try clear hK10 K10
  refine CW.seq fun K11 hK11 => ?_
  first | refine CW.condD rfl (fun ht12 => ?_) (fun ht12 => ?_) | refine CW.condND rfl (fun ht12 => ?_) (fun ht12 => ?_) | refine CW.condN rfl (fun ht12 => ?_) (fun ht12 => ?_) | refine CW.cond rfl (fun ht12 => ?_) (fun ht12 => ?_)
  · -- then
    refine CW.skip ?_
    refine hK11 _ _ ?_; try clear hK11 K11
    obtain ⟨o, ho⟩ : ∃ o, ops[x]? = some o := ⟨_, List.getElem?_eq_getElem (by omega)⟩
    obtain ⟨aa, rfl, hma⟩ := hlo2.get ho
    have hstep := insN_step (ops := ops) ho
    have hix := hik x
    refine CW.seq_to (X := Unit) (fun _ => [(0, .pointer (some ⟨g, 0, none⟩)), (2, .slice (some aa) m c), (4, .pointer (some ⟨g4, 0, none⟩)), (9, .int .i64 (insN (ops.take (x + 1)) : Int)), (25, .slice (some aa) m c), (26, .int .i64 (m : Int)), (27, .int .i64 (x : Int))]) (fun _ w0 => Ext w w0 ∧ Blk w0 g4 24 (digC id)) ?_ ?_
    · skip
      refine CW.block ?_   -- block 1
      refine CW.seq fun K14 hK14 => ?_
      refine CW.region ?_   -- region 7
      refine WL.val (Y.indexAddrN Try.underlying35 rfl rfl sz0_apiOp (by omega)) (by decide) ?_   -- t29 := indexAddr 35 t25 t27
      refine WL.val (Y.load Try.underlying62 rfl ((hma.ext hE)) (sz_apiOp _) rfl) (by decide) ?_   -- t30 := load 62 t29
      refine as_apiOp rfl (by simp) (by decide) fun g11 w4 hx4 hg11 hB11 => ?_   -- alloc 62; store 62 t11 t30
      have hlt11 := hB11.lt; have hz4 := hx4.size
      have hM11 := hB11.mem; have hz4 := hx4.size; have hE := hE.thenExt hx4; have hT := hT.ext hx4; have hB0 := hB0.ext hx4; have hl := hl.ext hx4; have hB4 := hB4.ext hx4
      refine WL.nil ?_
      refine hK14 _ _ ?_; try clear hK14 K14
      refine CW.seq fun K15 hK15 => ?_
      refine CW.region ?_   -- region 8
      refine WL.val (Y.fieldAddr fo_apiOp0 rfl) (by decide) ?_   -- t31 := fieldAddr 62 t11 0
      refine WL.val (Y.load1 Try.underlying3 rfl hB11.mem.op0 rfl) (by decide) ?_   -- t32 := load 3 t31
      refine WL.val (Y.eql rfl rfl) (by decide) ?_   -- t33 := binOp eql 3 t32 c(1:i64) 3
      refine WL.nil ?_
      refine hK15 _ _ ?_; try clear hK15 K15
      first | refine CW.condD rfl (fun ht16 => ?_) (fun ht16 => ?_) | refine CW.condND rfl (fun ht16 => ?_) (fun ht16 => ?_) | refine CW.condN rfl (fun ht16 => ?_) (fun ht16 => ?_) | refine CW.cond rfl (fun ht16 => ?_) (fun ht16 => ?_)
      · -- then
        refine CW.region ?_   -- region 9
        refine WL.val (Y.move rfl) (by decide) ?_   -- t34 := move t9
        refine WL.val (Y.add rfl rfl ⟨by omega, by omega⟩) (by decide) ?_   -- t35 := binOp add 3 t34 c(1:i64) 3
        refine WL.val (Y.assign rfl) (by decide) ?_   -- t9 := assign t35
        refine WL.nil ?_
        refine ⟨(), ?_, hE, hB4⟩
        rw [hstep, if_pos (by assumption)]
        exact (by repeat (first | exact Fr.le.nil | refine Fr.le.cons rfl ?_))
      -- else
      refine CW.skip ?_
      refine ⟨(), ?_, hE, hB4⟩
      rw [hstep, if_neg (by assumption)]
      exact (by repeat (first | exact Fr.le.nil | refine Fr.le.cons rfl ?_))
    rintro u w5 hj5
    obtain ⟨hE, hB4⟩ := hj5
    have hT := hTo.ext hE
    have hB0 := hT.blk
    have hl := hlo2.ext hE
    refine CW.region ?_   -- region 10
    refine WL.val (Y.add rfl rfl ⟨by omega, by omega⟩) (by decide) ?_   -- t36 := binOp add 3 t27 c(1:i64) 3
    refine WL.val (Y.move rfl) (by decide) ?_   -- t27 := move t36
    refine WL.nil ?_
    exact ⟨x + 1, (by show m - (x + 1) < m - x; omega), (by repeat (first | exact Fr.le.nil | refine Fr.le.cons rfl ?_)), (by show x + 1 ≤ m; omega), hE, hB4⟩
  -- else
  refine CW.exit ?_   -- exit 0
  refine hK8 _ _ ?_; try clear hK8 K8
  refine CW.seq fun K17 hK17 => ?_
  have htk : ops.take x = ops := List.take_of_length_le (by omega)
  have hins := hik x
  rw [htk] at hins ⊢
  have hnid : id ∉ ad := fun h => by
    have h9 := (AE.look hka id).trans (decide_eq_true h)
    simp_all
  refine CW.seq_test 49 (2000 < m ∨ 400000 < insN ops + (ns.length - 1)) ?_ ?_
  · refine CW.region ?_
    refine WL.val (Y.move rfl) (by decide) ?_   -- t37 := move t2
    refine WL.val (Y.len_slice Try.underlying35 rfl) (by decide) ?_   -- t38 := call len(t37) : 35
    refine WL.val (Y.gtr rfl rfl) (by decide) ?_   -- t39 := binOp gtr 3 t38 c(2000:i64) 3
    refine WL.val (Y.move rfl) (by decide) ?_   -- t40 := move t39
    first | refine WL.casesD (d := 40) rfl (fun hg40 => ?_) (fun hg40 => ?_) | refine WL.casesND (d := 40) rfl (fun hg40 => ?_) (fun hg40 => ?_) | refine WL.cases (d := 40) rfl (fun hg40 => ?_) (fun hg40 => ?_)
    · -- t40 = T
      refine WL.goff rfl rfl (by decide) ?_   -- t41 := move t9 [if 3=false]
      refine WL.goff rfl rfl (by decide) ?_   -- t42 := move t0 [if 3=false]
      refine WL.goff rfl rfl (by decide) ?_   -- t43 := nilCheck t42 [if 3=false]
      refine WL.goff rfl rfl (by decide) ?_   -- t44 := fieldAddr 91 t43 1 [if 3=false]
      refine WL.goff rfl rfl (by decide) ?_   -- t45 := load 88 t44 [if 3=false]
      refine WL.goff rfl rfl (by decide) ?_   -- t46 := call len(t45) : 88 [if 3=false]
      refine WL.goff rfl rfl (by decide) ?_   -- t47 := binOp sub 3 c(400000:i64) t46 3 [if 3=false]
      refine WL.goff rfl rfl (by decide) ?_   -- t48 := binOp gtr 3 t41 t47 3 [if 3=false]
      refine WL.val (Y.pick rfl rfl) (by decide) ?_   -- t49 := pick t40 c(true) t48
      refine WL.nil ⟨⟨_, rfl, ?_⟩, rfl, (by repeat (first | exact Fr.le.refl | refine Fr.le.push rfl ?_))⟩
      first | (simp only [*, Int.natCast_inj, Bool.not_eq_true', decide_eq_false_iff_not, decide_eq_true_eq, not_true_eq_false, not_false_eq_true, true_and, false_and, and_true, and_false, false_or, or_false, true_or, or_true, iff_true, true_iff, iff_false, false_iff]; done) | (simp_all; done) | (refine congrArg Value.bool (Bool.eq_iff_iff.2 ?_); simp_all; done) | (simp_all; omega)
    · -- t40 = F
      refine WL.gval rfl rfl (Y.move rfl) (by decide) ?_   -- t41 := move t9 [if 3=false]
      refine WL.gval rfl rfl (Y.move rfl) (by decide) ?_   -- t42 := move t0 [if 3=false]
      refine WL.gval rfl rfl (Y.nilCheck rfl) (by decide) ?_   -- t43 := nilCheck t42 [if 3=false]
      refine WL.gval rfl rfl (Y.fieldAddr fo_fugueTree1 rfl) (by decide) ?_   -- t44 := fieldAddr 91 t43 1 [if 3=false]
      refine WL.gval rfl rfl (Y.load1 Try.underlying88 rfl hB0.mem.fugueTree1 rfl) (by decide) ?_   -- t45 := load 88 t44 [if 3=false]
      refine WL.gval rfl rfl (Y.len_map Try.underlying88 rfl (hMb.ext hE)) (by decide) ?_   -- t46 := call len(t45) : 88 [if 3=false]
      refine WL.gval rfl rfl (Y.sub rfl rfl ⟨by omega, by omega⟩) (by decide) ?_   -- t47 := binOp sub 3 c(400000:i64) t46 3 [if 3=false]
      refine WL.gval rfl rfl (Y.gtr rfl rfl) (by decide) ?_   -- t48 := binOp gtr 3 t41 t47 3 [if 3=false]
      refine WL.val (Y.pick rfl rfl) (by decide) ?_   -- t49 := pick t40 c(true) t48
      refine WL.nil ⟨⟨_, rfl, ?_⟩, rfl, (by repeat (first | exact Fr.le.refl | refine Fr.le.push rfl ?_))⟩
      first | (simp only [*, Int.natCast_inj, Bool.not_eq_true', decide_eq_false_iff_not, decide_eq_true_eq, not_true_eq_false, not_false_eq_true, true_and, false_and, and_true, and_false, false_or, or_false, true_or, or_true, iff_true, true_iff, iff_false, false_iff]; done) | (simp_all; done) | (refine congrArg Value.bool (Bool.eq_iff_iff.2 ?_); simp_all; done) | (simp_all; omega)
  first | refine CW.condD rfl (fun ht18 => ?_) (fun ht18 => ?_) | refine CW.condND rfl (fun ht18 => ?_) (fun ht18 => ?_) | refine CW.condN rfl (fun ht18 => ?_) (fun ht18 => ?_) | refine CW.cond rfl (fun ht18 => ?_) (fun ht18 => ?_)
  · -- then
    refine CW.seq fun K19 hK19 => ?_
    refine CW.region ?_   -- region 12
    refine WL.val (Y.assign rfl) (by decide) ?_   -- t6 := assign c(4:i64)
    refine WL.nil ?_
    refine hK19 _ _ ?_; try clear hK19 K19
    refine CW.ret ⟨_, rfl, ?_⟩
    exact ⟨by rw [wrongC, if_neg hnid, if_pos (by rw [hm, hel]; assumption)], hE⟩
  -- else
  refine CW.skip ?_
  refine hK17 _ _ ?_; try clear hK17 K17
  refine CW.seq fun K20 hK20 => ?_
  refine CW.seq fun K21 hK21 => ?_
  refine CW.region ?_   -- region 13
  refine WL.val (Y.move rfl) (by decide) ?_   -- t50 := move t2
  refine WL.val (Y.len_slice Try.underlying35 rfl) (by decide) ?_   -- t51 := call len(t50) : 35
  refine WL.val (Y.move rfl) (by decide) ?_   -- t52 := move c(0:i64)
  refine WL.nil ?_
  refine hK21 _ _ ?_; try clear hK21 K21
  refine CW.block ?_   -- block 2
  refine CW.loop (X := Nat) (fun x => [(0, .pointer (some ⟨g, 0, none⟩)), (2, .slice A m c), (4, .pointer (some ⟨g4, 0, none⟩)), (50, .slice A m c), (51, .int .i64 (m : Int)), (52, .int .i64 (x : Int))]) (fun x w0 => x ≤ m ∧ wrongN (els ns) ops x = 0 ∧ Ext w w0 ∧ Blk w0 g4 24 (digC id)) (fun x => m - x) 0 (by repeat (first | exact Fr.le.nil | refine Fr.le.cons rfl ?_)) ⟨Nat.zero_le _, rfl, hE, hB4⟩ ?_
  intro x w6 hl6
  obtain ⟨hxm, hwn, hE, hB4⟩ := hl6
  have hT := hTo.ext hE
  have hB0 := hT.blk
  have hl := hlo2.ext hE
  have hzl := hE.size
  have hb4 := hB4.lt
  have hn4 : ¬ (2000 < ops.length ∨ 400000 < insN ops + ((els ns).length - 1)) := by rw [hm, hel]; assumption
  refine CW.seq fun K22 hK22 => ?_
  refine CW.region ?_   -- region 14
  refine WL.val (Y.lss rfl rfl) (by decide) ?_   -- t53 := binOp lss 3 t52 t51 3
  refine WL.nil ?_
  refine hK22 _ _ ?_; try clear hK22 K22
  refine CW.seq fun K23 hK23 => ?_
  first | refine CW.condD rfl (fun ht24 => ?_) (fun ht24 => ?_) | refine CW.condND rfl (fun ht24 => ?_) (fun ht24 => ?_) | refine CW.condN rfl (fun ht24 => ?_) (fun ht24 => ?_) | refine CW.cond rfl (fun ht24 => ?_) (fun ht24 => ?_)
  · -- then
    refine CW.skip ?_
    refine hK23 _ _ ?_; try clear hK23 K23
    refine CW.seq fun K25 hK25 => ?_
    refine CW.block ?_   -- block 3
    refine CW.seq fun K26 hK26 => ?_
    obtain ⟨o, ho⟩ : ∃ o, ops[x]? = some o := ⟨_, List.getElem?_eq_getElem (by omega)⟩
    obtain ⟨aa, rfl, hma⟩ := hlo2.get ho
    refine CW.region ?_   -- region 15
    refine WL.val (Y.move rfl) (by decide) ?_   -- t54 := move t52
    refine WL.val (Y.indexAddrN Try.underlying35 rfl rfl sz0_apiOp (by omega)) (by decide) ?_   -- t55 := indexAddr 35 t50 t52
    refine WL.val (Y.load Try.underlying62 rfl (hma.ext hE) (sz_apiOp _) rfl) (by decide) ?_   -- t56 := load 62 t55
    refine WL.alloc (hio) (hzo) rfl (by decide) fun g13 w7 hx7 hg13 hB13 => ?_   -- t13 := alloc 62
    have hlt13 := hB13.lt; have hz7 := hx7.size
    have hM13 := hB13.mem; have hz7 := hx7.size; have hE := hE.thenExt hx7; have hT := hT.ext hx7; have hB0 := hB0.ext hx7; have hl := hl.ext hx7; have hB4 := hB4.ext hx7
    refine WL.val (Y.assign rfl) (by decide) ?_   -- t12 := assign t54
    refine WL.store (g := g13) (pre := []) (old := opC (⟨0, false, RefD.zero, 0⟩ : OpD)) (post := []) (new := opC o) rfl rfl rfl rfl (sz_apiOp _) (by simpa using hB13) (by first | rfl | (simp [digC_length, opC_length]; done) | (simp only [digC_length, opC_length]; omega)) (one_opC) (fun w8 hc8 hB8_ => ?_)   -- _ := store 62 t13 t56
    have hz8 := hc8.size; have hE := hE.step hc8 (fun k h => by omega); have hT := hT.chg hc8 (fun k hk h => by have := hlo k hk; omega); have hB0 := hB0.chg hc8 (fun h => by omega); have hl := hlo2.ext hE; have hB4 := hB4.chg hc8 (fun h => by omega)
    have hB13 : Blk w8 g13 62 (opC o) := by simpa using hB8_
    refine WL.nil ?_
    refine hK26 _ _ ?_; try clear hK26 K26
    refine CW.seq fun K27 hK27 => ?_
    refine CW.seq fun K28 hK28 => ?_
    refine CW.region ?_   -- region 16
    refine WL.val (Y.move rfl) (by decide) ?_   -- t57 := move t2
    refine WL.val (Y.move rfl) (by decide) ?_   -- t58 := move t12
    refine WL.val (Y.add rfl rfl ⟨by omega, by omega⟩) (by decide) ?_   -- t59 := binOp add 3 t58 c(1:i64) 3
    refine WL.call Try.func54 rfl rfl rfl (right_any _ ops ((x : Int) + 1) _ hl ⟨by omega, by omega⟩) (by simp) ?_; rintro v w9 ⟨rfl, hx9⟩; have hz9 := hx9.size; have hE := hE.thenExt hx9; have hT := hT.ext hx9; have hB0 := hB0.ext hx9; have hl := hl.ext hx9; have hB4 := hB4.ext hx9; have hB13 := hB13.ext hx9   -- t60 := call F54(t57, t59) : 35,3
    refine WL.val (Y.assign rfl) (by decide) ?_   -- t14 := assign t60
    refine WL.nil ?_
    refine hK28 _ _ ?_; try clear hK28 K28
    refine CW.seq fun K29 hK29 => ?_
    refine CW.region ?_   -- region 17
    refine WL.val (Y.move rfl) (by decide) ?_   -- t61 := move t14
    refine WL.val (Y.neq rfl rfl) (by decide) ?_   -- t62 := binOp neq 38 t61 c(0:i64) 38
    refine WL.nil ?_
    refine hK29 _ _ ?_; try clear hK29 K29
    first | refine CW.condD rfl (fun ht30 => ?_) (fun ht30 => ?_) | refine CW.condND rfl (fun ht30 => ?_) (fun ht30 => ?_) | refine CW.condN rfl (fun ht30 => ?_) (fun ht30 => ?_) | refine CW.cond rfl (fun ht30 => ?_) (fun ht30 => ?_)
    · -- then
      refine CW.seq fun K31 hK31 => ?_
      refine CW.region ?_   -- region 18
      refine WL.val (Y.move rfl) (by decide) ?_   -- t63 := move t14
      refine WL.val (Y.assign rfl) (by decide) ?_   -- t6 := assign t63
      refine WL.nil ?_
      refine hK31 _ _ ?_; try clear hK31 K31
      refine CW.ret ⟨_, rfl, ?_⟩
      exact ⟨by rw [wrongC, if_neg hnid, if_neg hn4, wrongN_end ho hwn (by rw [wrongAt, if_pos (by assumption)]; assumption), wrongAt, if_pos (by assumption)], hE⟩
    -- else
    refine CW.skip ?_
    refine hK27 _ _ ?_; try clear hK27 K27
    have hRO := right_op ho (Decidable.not_not.1 (by assumption))
    have hk2 : refKind o.at_ = 2 ↔ o.at_ ≠ RefD.zero ∧ o.at_.own = false := ⟨fun h => ⟨(refKind_two h).2.2.2, (refKind_two h).1⟩, fun h => by
      rcases refB_kind hRO.ref h.2 with h1 | h1
      · exact absurd h1 h.1
      · exact h1.1⟩
    have hbn := byA_none ns o.at_
    refine CW.seq_testE 83 (refKind o.at_ = 2 ∧ atE (els ns) o.at_ = none) ?_ ?_
    · refine CW.quiet (fun wq => Ext w9 wq) (by kernel_rfl) (by kernel_rfl) Chg.drew ?_
      refine QL.val (fun wq hq => Y.fieldAddr fo_apiOp2 rfl) (by decide) ?_   -- t64 := fieldAddr 62 t13 2
      refine QL.val (fun wq hq => Y.load Try.underlying49 rfl (hB13.ext hq).mem.op2 (sz_apiRef _) rfl) (by decide) ?_   -- t65 := load 49 t64
      refine QL.val (fun wq hq => Y.build0 (build_apiRef _)) (by decide) ?_   -- t66 := build 49 []
      refine QL.val (fun wq hq => Y.neq_apiRef rfl rfl) (by decide) ?_   -- t67 := binOp neq 49 t65 t66 49
      refine QL.val (fun wq hq => Y.move rfl) (by decide) ?_   -- t68 := move t67
      first | refine QL.casesD (d := 68) rfl (fun hg68 => ?_) (fun hg68 => ?_) | refine QL.casesND (d := 68) rfl (fun hg68 => ?_) (fun hg68 => ?_) | refine QL.cases (d := 68) rfl (fun hg68 => ?_) (fun hg68 => ?_)
      · -- t68 = T
        refine QL.gval rfl rfl (fun wq hq => Y.fieldAddr fo_apiOp2 rfl) (by decide) ?_   -- t69 := fieldAddr 62 t13 2 [if 4=true]
        refine QL.gval rfl rfl (fun wq hq => Y.fieldAddr fo_apiRef0 rfl) (by decide) ?_   -- t70 := fieldAddr 49 t69 0 [if 4=true]
        refine QL.gval rfl rfl (fun wq hq => Y.load1 Try.underlying4 rfl (hB13.ext hq).mem.op2.ref0 rfl) (by decide) ?_   -- t71 := load 4 t70 [if 4=true]
        refine QL.gval rfl rfl (fun wq hq => Y.not rfl) (by decide) ?_   -- t72 := unOp not 4 t71 [if 4=true]
        refine QL.val (fun wq hq => Y.pick rfl rfl) (by decide) ?_   -- t73 := pick t68 t72 c(false)
        refine QL.val (fun wq hq => Y.move rfl) (by decide) ?_   -- t74 := move t73
        first | refine QL.casesD (d := 74) rfl (fun hg74 => ?_) (fun hg74 => ?_) | refine QL.casesND (d := 74) rfl (fun hg74 => ?_) (fun hg74 => ?_) | refine QL.cases (d := 74) rfl (fun hg74 => ?_) (fun hg74 => ?_)
        · -- t74 = T
          refine QL.gval rfl rfl (fun wq hq => Y.move rfl) (by decide) ?_   -- t75 := move t0 [if 10=true]
          refine QL.gval rfl rfl (fun wq hq => Y.nilCheck rfl) (by decide) ?_   -- t76 := nilCheck t75 [if 10=true]
          refine QL.gval rfl rfl (fun wq hq => Y.fieldAddr fo_fugueTree1 rfl) (by decide) ?_   -- t77 := fieldAddr 91 t76 1 [if 10=true]
          refine QL.gval rfl rfl (fun wq hq => Y.load1 Try.underlying88 rfl (hB0.ext hq).mem.fugueTree1 rfl) (by decide) ?_   -- t78 := load 88 t77 [if 10=true]
          refine QL.gval rfl rfl (fun wq hq => Y.fieldAddr fo_apiOp2 rfl) (by decide) ?_   -- t79 := fieldAddr 62 t13 2 [if 10=true]
          refine QL.gval rfl rfl (fun wq hq => Y.load Try.underlying49 rfl (hB13.ext hq).mem.op2 (sz_apiRef _) rfl) (by decide) ?_   -- t80 := load 49 t79 [if 10=true]
          refine QL.gval rfl rfl (fun wq hq => Y.lookB (hT.ext hq) hG rfl rfl) (by decide) ?_   -- t81 := lookup 88 t78 t80 false [if 10=true]
          refine QL.gval rfl rfl (fun wq hq => Y.eql_fuguenode rfl rfl) (by decide) ?_   -- t82 := binOp eql 87 t81 c(['Go.Value.pointer', 'none']) 87 [if 10=true]
          refine QL.val (fun wq hq => Y.pick rfl rfl) (by decide) ?_   -- t83 := pick t74 t82 c(false)
          refine QL.nil fun wq hq => ⟨⟨_, rfl, ?_⟩, hq, (by repeat (first | exact Fr.le.refl | refine Fr.le.push rfl ?_))⟩
          first | (simp only [*, Int.natCast_inj, Bool.not_eq_true', decide_eq_false_iff_not, decide_eq_true_eq, not_true_eq_false, not_false_eq_true, true_and, false_and, and_true, and_false, false_or, or_false, true_or, or_true, iff_true, true_iff, iff_false, false_iff]; done) | (simp_all; done) | (refine congrArg Value.bool (Bool.eq_iff_iff.2 ?_); simp_all; done) | (simp_all; omega)
        · -- t74 = F
          refine QL.goff rfl rfl (by decide) ?_   -- t75 := move t0 [if 10=true]
          refine QL.goff rfl rfl (by decide) ?_   -- t76 := nilCheck t75 [if 10=true]
          refine QL.goff rfl rfl (by decide) ?_   -- t77 := fieldAddr 91 t76 1 [if 10=true]
          refine QL.goff rfl rfl (by decide) ?_   -- t78 := load 88 t77 [if 10=true]
          refine QL.goff rfl rfl (by decide) ?_   -- t79 := fieldAddr 62 t13 2 [if 10=true]
          refine QL.goff rfl rfl (by decide) ?_   -- t80 := load 49 t79 [if 10=true]
          refine QL.goff rfl rfl (by decide) ?_   -- t81 := lookup 88 t78 t80 false [if 10=true]
          refine QL.goff rfl rfl (by decide) ?_   -- t82 := binOp eql 87 t81 c(['Go.Value.pointer', 'none']) 87 [if 10=true]
          refine QL.val (fun wq hq => Y.pick rfl rfl) (by decide) ?_   -- t83 := pick t74 t82 c(false)
          refine QL.nil fun wq hq => ⟨⟨_, rfl, ?_⟩, hq, (by repeat (first | exact Fr.le.refl | refine Fr.le.push rfl ?_))⟩
          first | (simp only [*, Int.natCast_inj, Bool.not_eq_true', decide_eq_false_iff_not, decide_eq_true_eq, not_true_eq_false, not_false_eq_true, true_and, false_and, and_true, and_false, false_or, or_false, true_or, or_true, iff_true, true_iff, iff_false, false_iff]; done) | (simp_all; done) | (refine congrArg Value.bool (Bool.eq_iff_iff.2 ?_); simp_all; done) | (simp_all; omega)
      · -- t68 = F
        refine QL.goff rfl rfl (by decide) ?_   -- t69 := fieldAddr 62 t13 2 [if 4=true]
        refine QL.goff rfl rfl (by decide) ?_   -- t70 := fieldAddr 49 t69 0 [if 4=true]
        refine QL.goff rfl rfl (by decide) ?_   -- t71 := load 4 t70 [if 4=true]
        refine QL.goff rfl rfl (by decide) ?_   -- t72 := unOp not 4 t71 [if 4=true]
        refine QL.val (fun wq hq => Y.pick rfl rfl) (by decide) ?_   -- t73 := pick t68 t72 c(false)
        refine QL.val (fun wq hq => Y.move rfl) (by decide) ?_   -- t74 := move t73
        refine QL.goff rfl rfl (by decide) ?_   -- t75 := move t0 [if 10=true]
        refine QL.goff rfl rfl (by decide) ?_   -- t76 := nilCheck t75 [if 10=true]
        refine QL.goff rfl rfl (by decide) ?_   -- t77 := fieldAddr 91 t76 1 [if 10=true]
        refine QL.goff rfl rfl (by decide) ?_   -- t78 := load 88 t77 [if 10=true]
        refine QL.goff rfl rfl (by decide) ?_   -- t79 := fieldAddr 62 t13 2 [if 10=true]
        refine QL.goff rfl rfl (by decide) ?_   -- t80 := load 49 t79 [if 10=true]
        refine QL.goff rfl rfl (by decide) ?_   -- t81 := lookup 88 t78 t80 false [if 10=true]
        refine QL.goff rfl rfl (by decide) ?_   -- t82 := binOp eql 87 t81 c(['Go.Value.pointer', 'none']) 87 [if 10=true]
        refine QL.val (fun wq hq => Y.pick rfl rfl) (by decide) ?_   -- t83 := pick t74 t82 c(false)
        refine QL.nil fun wq hq => ⟨⟨_, rfl, ?_⟩, hq, (by repeat (first | exact Fr.le.refl | refine Fr.le.push rfl ?_))⟩
        first | (simp only [*, Int.natCast_inj, Bool.not_eq_true', decide_eq_false_iff_not, decide_eq_true_eq, not_true_eq_false, not_false_eq_true, true_and, false_and, and_true, and_false, false_or, or_false, true_or, or_true, iff_true, true_iff, iff_false, false_iff]; done) | (simp_all; done) | (refine congrArg Value.bool (Bool.eq_iff_iff.2 ?_); simp_all; done) | (simp_all; omega)
    intro w10 hx10; have hz10 := hx10.size; have hE := hE.thenExt hx10; have hT := hT.ext hx10; have hB0 := hB0.ext hx10; have hl := hl.ext hx10; have hB4 := hB4.ext hx10; have hB13 := hB13.ext hx10
    first | refine CW.condD rfl (fun ht32 => ?_) (fun ht32 => ?_) | refine CW.condND rfl (fun ht32 => ?_) (fun ht32 => ?_) | refine CW.condN rfl (fun ht32 => ?_) (fun ht32 => ?_) | refine CW.cond rfl (fun ht32 => ?_) (fun ht32 => ?_)
    · -- then
      refine CW.seq fun K33 hK33 => ?_
      refine CW.region ?_   -- region 20
      refine WL.val (Y.assign rfl) (by decide) ?_   -- t6 := assign c(5:i64)
      refine WL.nil ?_
      refine hK33 _ _ ?_; try clear hK33 K33
      refine CW.ret ⟨_, rfl, ?_⟩
      have hwa : wrongAt (els ns) ops x o = 5 := by rw [wrongAt, if_neg (by assumption), if_pos (by assumption)]
      exact ⟨by rw [wrongC, if_neg hnid, if_neg hn4, wrongN_end ho hwn (by rw [hwa]; decide), hwa], hE⟩
    -- else
    refine CW.skip ?_
    refine hK25 _ _ ?_; try clear hK25 K25
    refine CW.region ?_   -- region 21
    refine WL.val (Y.add rfl rfl ⟨by omega, by omega⟩) (by decide) ?_   -- t84 := binOp add 3 t52 c(1:i64) 3
    refine WL.val (Y.move rfl) (by decide) ?_   -- t52 := move t84
    refine WL.nil ?_
    exact ⟨x + 1, (by show m - (x + 1) < m - x; omega), (by repeat (first | exact Fr.le.nil | refine Fr.le.cons rfl ?_)), (by show x + 1 ≤ m; omega), (by rw [wrongN_at ho hwn, wrongAt, if_neg (by assumption), if_neg (by assumption)]), hE, hB4⟩
  -- else
  refine CW.exit ?_   -- exit 2
  refine hK20 _ _ ?_; try clear hK20 K20
  refine CW.seq fun K34 hK34 => ?_
  refine CW.region ?_   -- region 22
  refine WL.val (Y.assign rfl) (by decide) ?_   -- t6 := assign c(0:i64)
  refine WL.nil ?_
  refine hK34 _ _ ?_; try clear hK34 K34
  refine CW.ret ⟨_, rfl, ?_⟩
  have hxe : x = ops.length := by omega
  exact ⟨by rw [wrongC, if_neg hnid, if_neg hn4, ← hxe, hwn], hE⟩
end Go.Proofs.Ytffkmlkdlhkkmaa
