/- Parts of a proof: what its last text leans on. No condition. -/
import Derived.Test.YtjbeooimhoilmaaDoorK05
import Derived.Test.YtjbeooimhoilmaaDoorK18
set_option linter.unusedSimpArgs false
set_option linter.unusedVariables false
/- Fugue's tree: order, wrong, walked. No condition. -/
namespace Go.Proofs.YtjbeooimhoilmaaDoor
open Go.RowKit Go.Fw Go.Fu Go.Pl
noncomputable def ordI (a b : RefD) : Int := if a.c = b.c then a.n - b.n else if lessB a.c b.c = true then -1 else 1
theorem forder_any (a b : Nat) (x y : El) (lv rv lv' rv' : Value) (w : World) (hBa : Blk w a TN (nodeC x lv rv)) (hBb : Blk w b TN (nodeC y lv' rv')) (hi : InI64 (x.name.n - y.name.n)) : Calls Tryd.prog 41 #[.pointer (some ⟨a, 0, none⟩), .pointer (some ⟨b, 0, none⟩)] w (Ret fun v w' => v = .int .i64 (ordI x.name y.name) ∧ Ext w w') := by
  refine calls_of_CW 40 [4] [(0, .pointer (some ⟨a, 0, none⟩)), (1, .pointer (some ⟨b, 0, none⟩))] Tryd.func41 rfl rfl rfl (by simp) args2 ?_
  have hE : Ext w w := Chg.refl
  refine CW.seq fun K1 hK1 => ?_
  refine CW.region ?_
  refine WL.val (Y.assign rfl) (by decide) ?_
  refine WL.nil ?_
  refine hK1 _ _ ?_; try clear hK1 K1
  refine CW.seq fun K2 hK2 => ?_
  refine CW.block ?_
  refine CW.seq fun K3 hK3 => ?_
  refine CW.quiet (fun wq => Ext w wq) (by kernel_rfl) (by kernel_rfl) Chg.drew ?_
  refine QL.val (fun wq hq => Y.move rfl) (by decide) ?_
  refine QL.val (fun wq hq => Y.nilCheck rfl) (by decide) ?_
  refine QL.val (fun wq hq => Y.fieldAddr fo_fuguenode0 rfl) (by decide) ?_
  refine QL.val (fun wq hq => Y.fieldAddr fo_apiRef1 rfl) (by decide) ?_
  refine QL.val (fun wq hq => Y.load Tryd.underlying48 rfl (hBa.ext hq).mem.fuguenode0.ref1 (sz_apiDigest _) rfl) (by decide) ?_
  refine QL.val (fun wq hq => Y.move rfl) (by decide) ?_
  refine QL.val (fun wq hq => Y.nilCheck rfl) (by decide) ?_
  refine QL.val (fun wq hq => Y.fieldAddr fo_fuguenode0 rfl) (by decide) ?_
  refine QL.val (fun wq hq => Y.fieldAddr fo_apiRef1 rfl) (by decide) ?_
  refine QL.val (fun wq hq => Y.load Tryd.underlying48 rfl (hBb.ext hq).mem.fuguenode0.ref1 (sz_apiDigest _) rfl) (by decide) ?_
  refine QL.val (fun wq hq => Y.eql_apiDigest rfl rfl) (by decide) ?_
  refine QL.val (fun wq hq => Y.assign rfl) (by decide) ?_
  refine QL.nil fun w1 hx1 => ?_
  have hz1 := hx1.size
  have hE := hE.thenExt hx1
  have hBa := hBa.ext hx1
  have hBb := hBb.ext hx1
  refine hK3 _ _ ?_; try clear hK3 K3
  first | refine CW.condD rfl (fun ht4 => ?_) (fun ht4 => ?_) | refine CW.condND rfl (fun ht4 => ?_) (fun ht4 => ?_) | refine CW.condN rfl (fun ht4 => ?_) (fun ht4 => ?_) | refine CW.cond rfl (fun ht4 => ?_) (fun ht4 => ?_)
  · -- then
    refine CW.seq fun K5 hK5 => ?_
    refine CW.quiet (fun wq => Ext w1 wq) (by kernel_rfl) (by kernel_rfl) Chg.drew ?_
    refine QL.val (fun wq hq => Y.move rfl) (by decide) ?_
    refine QL.val (fun wq hq => Y.nilCheck rfl) (by decide) ?_
    refine QL.val (fun wq hq => Y.fieldAddr fo_fuguenode0 rfl) (by decide) ?_
    refine QL.val (fun wq hq => Y.fieldAddr fo_apiRef2 rfl) (by decide) ?_
    refine QL.val (fun wq hq => Y.load1 Tryd.underlying3 rfl (hBa.ext hq).mem.fuguenode0.ref2 rfl) (by decide) ?_
    refine QL.val (fun wq hq => Y.move rfl) (by decide) ?_
    refine QL.val (fun wq hq => Y.nilCheck rfl) (by decide) ?_
    refine QL.val (fun wq hq => Y.fieldAddr fo_fuguenode0 rfl) (by decide) ?_
    refine QL.val (fun wq hq => Y.fieldAddr fo_apiRef2 rfl) (by decide) ?_
    refine QL.val (fun wq hq => Y.load1 Tryd.underlying3 rfl (hBb.ext hq).mem.fuguenode0.ref2 rfl) (by decide) ?_
    refine QL.val (fun wq hq => Y.sub rfl rfl ⟨by omega, by omega⟩) (by decide) ?_
    refine QL.val (fun wq hq => Y.assign rfl) (by decide) ?_
    refine QL.nil fun w2 hx2 => ?_
    have hz2 := hx2.size
    have hE := hE.thenExt hx2
    have hBa := hBa.ext hx2
    have hBb := hBb.ext hx2
    refine hK5 _ _ ?_; try clear hK5 K5
    refine CW.ret ⟨_, rfl, ?_⟩
    exact ⟨by rw [ordI, if_pos (by assumption)], hE⟩
  refine CW.seq fun K6 hK6 => ?_
  refine CW.quiet (fun wq => Ext w1 wq) (by kernel_rfl) (by kernel_rfl) Chg.drew ?_
  refine QL.val (fun wq hq => Y.move rfl) (by decide) ?_
  refine QL.val (fun wq hq => Y.nilCheck rfl) (by decide) ?_
  refine QL.val (fun wq hq => Y.fieldAddr fo_fuguenode0 rfl) (by decide) ?_
  refine QL.val (fun wq hq => Y.fieldAddr fo_apiRef1 rfl) (by decide) ?_
  refine QL.val (fun wq hq => Y.load Tryd.underlying48 rfl (hBa.ext hq).mem.fuguenode0.ref1 (sz_apiDigest _) rfl) (by decide) ?_
  refine QL.val (fun wq hq => Y.move rfl) (by decide) ?_
  refine QL.val (fun wq hq => Y.nilCheck rfl) (by decide) ?_
  refine QL.val (fun wq hq => Y.fieldAddr fo_fuguenode0 rfl) (by decide) ?_
  refine QL.val (fun wq hq => Y.fieldAddr fo_apiRef1 rfl) (by decide) ?_
  refine QL.val (fun wq hq => Y.load Tryd.underlying48 rfl (hBb.ext hq).mem.fuguenode0.ref1 (sz_apiDigest _) rfl) (by decide) ?_
  refine QL.call Tryd.func47 rfl rfl rfl (fun wq hq => ret_ext (less_any _ _ wq) hq) (by simp) ?_
  refine QL.val (fun wq hq => Y.assign rfl) (by decide) ?_
  refine QL.nil fun w3 hx3 => ?_
  have hz3 := hx3.size
  have hE := hE.thenExt hx3
  have hBa := hBa.ext hx3
  have hBb := hBb.ext hx3
  refine hK6 _ _ ?_; try clear hK6 K6
  first | refine CW.condD rfl (fun ht7 => ?_) (fun ht7 => ?_) | refine CW.condND rfl (fun ht7 => ?_) (fun ht7 => ?_) | refine CW.condN rfl (fun ht7 => ?_) (fun ht7 => ?_) | refine CW.cond rfl (fun ht7 => ?_) (fun ht7 => ?_)
  · -- then
    refine CW.seq fun K8 hK8 => ?_
    refine CW.region ?_
    refine WL.val (Y.assign rfl) (by decide) ?_
    refine WL.nil ?_
    refine hK8 _ _ ?_; try clear hK8 K8
    refine CW.ret ⟨_, rfl, ?_⟩
    exact ⟨by rw [ordI, if_neg (by assumption), if_pos (by assumption)], hE⟩
  refine CW.skip ?_
  refine hK2 _ _ ?_; try clear hK2 K2
  refine CW.seq fun K9 hK9 => ?_
  refine CW.region ?_
  refine WL.val (Y.assign rfl) (by decide) ?_
  refine WL.nil ?_
  refine hK9 _ _ ?_; try clear hK9 K9
  refine CW.ret ⟨_, rfl, ?_⟩
  exact ⟨by rw [ordI, if_neg (by assumption), if_neg (by simp_all)], hE⟩
theorem fwrong_any (g rb ra : Nat) (ad : List Dig) (ns : List Nn) (id : Dig) (u : Value) (ops : List OpD) (w : World) (hT : FtAt w g rb ra ad ns) (hG : Fu.Good (els ns)) (hn : ns.length ≤ 400001) (hl : Sl w opC 37 u ops) : Calls Tryd.prog 38 #[.pointer (some ⟨g, 0, none⟩), digV id, u] w (Ret fun v w' => v = .int .i64 (wrongC ⟨ad, els ns⟩ id ops) ∧ Ext w w') := by
  have hB0 := hT.blk
  have hlo : ∀ k, Fp g rb ra ns k → k < w.heap.size := fun k hk => hT.lt hk
  have hg0 := hB0.lt
  obtain ⟨A, m, c, rfl, hm, hmc, hcm, _⟩ := _root_.id hl
  unfold maxLen at hcm
  have hlo2 := hl
  have hTo := hT
  obtain ⟨cla, la, hMa, _, _, _, hka⟩ := hT.added
  obtain ⟨clb, lb, hMb, _, _, hlb, _⟩ := hT.by_
  have hel : (els ns).length = ns.length := List.length_map _
  obtain ⟨io, hio, hzo, hso⟩ := info_apiOp
  have hik : ∀ k, insN (ops.take k) ≤ k := fun k => by
    have h1 := List.countP_le_length (p := fun x : OpD => decide (x.kind = 1)) (l := ops.take k)
    rw [List.length_take] at h1
    unfold insN; omega
  refine calls_of_CW 85 [6] [(0, .pointer (some ⟨g, 0, none⟩)), (1, digV id), (2, .slice A m c)] Tryd.func38 rfl rfl rfl (by simp) args3 ?_
  have hE : Ext w w := Chg.refl
  refine CW.seq fun K1 hK1 => ?_
  refine CW.region ?_
  refine WL.box rfl rfl (by decide) fun g4 w1 hx1 hg4 hB4 => ?_
  have hlt4 := hB4.lt; have hz1 := hx1.size
  have hM4 := hB4.mem; have hz1 := hx1.size; have hE := hE.thenExt hx1; have hT := hT.ext hx1; have hB0 := hB0.ext hx1; have hl := hl.ext hx1
  refine WL.val (Y.assign rfl) (by decide) ?_
  refine WL.nil ?_
  refine hK1 _ _ ?_; try clear hK1 K1
  refine CW.seq fun K2 hK2 => ?_
  refine CW.seq fun K3 hK3 => ?_
  refine CW.quiet (fun wq => Ext w1 wq) (by kernel_rfl) (by kernel_rfl) Chg.drew ?_
  refine QL.val (fun wq hq => Y.move rfl) (by decide) ?_
  refine QL.val (fun wq hq => Y.nilCheck rfl) (by decide) ?_
  refine QL.val (fun wq hq => Y.fieldAddr fo_fugueTree2 rfl) (by decide) ?_
  refine QL.val (fun wq hq => Y.load1 Tryd.underlying66 rfl (hB0.ext hq).mem.fugueTree2 rfl) (by decide) ?_
  refine QL.val (fun wq hq => Y.load Tryd.underlying48 rfl (hB4.ext hq).mem (sz_apiDigest _) rfl) (by decide) ?_
  refine QL.val (fun wq hq => Y.lookupOk keyDig (fun _ => rfl) UMA zero_int rfl rfl ((hMa.ext hE).ext hq)) (by decide) ?_
  refine QL.val (fun wq hq => Y.move rfl) (by decide) ?_
  refine QL.val (fun wq hq => Y.extract rfl rfl) (by decide) ?_
  refine QL.val (fun wq hq => Y.extract rfl rfl) (by decide) ?_
  refine QL.val (fun wq hq => Y.assign rfl) (by decide) ?_
  refine QL.val (fun wq hq => Y.assign rfl) (by decide) ?_
  refine QL.nil fun w2 hx2 => ?_
  have hz2 := hx2.size
  have hE := hE.thenExt hx2
  have hT := hT.ext hx2
  have hB0 := hB0.ext hx2
  have hl := hl.ext hx2
  have hB4 := hB4.ext hx2
  refine hK3 _ _ ?_; try clear hK3 K3
  refine CW.seq fun K4 hK4 => ?_
  refine CW.region ?_
  refine WL.val (Y.move rfl) (by decide) ?_
  refine WL.nil ?_
  refine hK4 _ _ ?_; try clear hK4 K4
  first | refine CW.condD rfl (fun ht5 => ?_) (fun ht5 => ?_) | refine CW.condND rfl (fun ht5 => ?_) (fun ht5 => ?_) | refine CW.condN rfl (fun ht5 => ?_) (fun ht5 => ?_) | refine CW.cond rfl (fun ht5 => ?_) (fun ht5 => ?_)
  · -- then
    refine CW.seq fun K6 hK6 => ?_
    refine CW.region ?_
    refine WL.val (Y.assign rfl) (by decide) ?_
    refine WL.nil ?_
    refine hK6 _ _ ?_; try clear hK6 K6
    refine CW.ret ⟨_, rfl, ?_⟩
    exact ⟨by rw [wrongC, if_pos (of_decide_eq_true ((AE.look hka id).symm.trans (by assumption)))], hE⟩
  refine CW.skip ?_
  refine hK2 _ _ ?_; try clear hK2 K2
  refine CW.seq fun K7 hK7 => ?_
  refine CW.region ?_
  refine WL.val (Y.assign rfl) (by decide) ?_
  refine WL.nil ?_
  refine hK7 _ _ ?_; try clear hK7 K7
  refine CW.seq fun K8 hK8 => ?_
  refine CW.seq fun K9 hK9 => ?_
  refine CW.region ?_
  refine WL.val (Y.move rfl) (by decide) ?_
  refine WL.val (Y.len_slice Tryd.underlying35 rfl) (by decide) ?_
  refine WL.val (Y.move rfl) (by decide) ?_
  refine WL.nil ?_
  refine hK9 _ _ ?_; try clear hK9 K9
  refine CW.block ?_
  refine CW.loop (X := Nat) (fun x => [(0, .pointer (some ⟨g, 0, none⟩)), (2, .slice A m c), (4, .pointer (some ⟨g4, 0, none⟩)), (9, .int .i64 (insN (ops.take x) : Int)), (25, .slice A m c), (26, .int .i64 (m : Int)), (27, .int .i64 (x : Int))]) (fun x w0 => x ≤ m ∧ Ext w w0 ∧ Blk w0 g4 48 (digC id)) (fun x => m - x) 0 (by repeat (first | exact Fr.le.nil | refine Fr.le.cons rfl ?_)) ⟨Nat.zero_le _, hE, hB4⟩ ?_
  intro x w3 hl3
  obtain ⟨hxm, hE, hB4⟩ := hl3
  have hT := hTo.ext hE
  have hB0 := hT.blk
  have hl := hlo2.ext hE
  have hzl := hE.size
  refine CW.seq fun K10 hK10 => ?_
  refine CW.region ?_
  refine WL.val (Y.lss rfl rfl) (by decide) ?_
  refine WL.nil ?_
  refine hK10 _ _ ?_; try clear hK10 K10
  refine CW.seq fun K11 hK11 => ?_
  first | refine CW.condD rfl (fun ht12 => ?_) (fun ht12 => ?_) | refine CW.condND rfl (fun ht12 => ?_) (fun ht12 => ?_) | refine CW.condN rfl (fun ht12 => ?_) (fun ht12 => ?_) | refine CW.cond rfl (fun ht12 => ?_) (fun ht12 => ?_)
  · -- then
    refine CW.skip ?_
    refine hK11 _ _ ?_; try clear hK11 K11
    obtain ⟨o, ho⟩ : ∃ o, ops[x]? = some o := ⟨_, List.getElem?_eq_getElem (by omega)⟩
    obtain ⟨aa, rfl, hma⟩ := hlo2.get ho
    have hstep := insN_step (ops := ops) ho
    have hix := hik x
    refine CW.seq_to (X := Unit) (fun _ => [(0, .pointer (some ⟨g, 0, none⟩)), (2, .slice (some aa) m c), (4, .pointer (some ⟨g4, 0, none⟩)), (9, .int .i64 (insN (ops.take (x + 1)) : Int)), (25, .slice (some aa) m c), (26, .int .i64 (m : Int)), (27, .int .i64 (x : Int))]) (fun _ w0 => Ext w w0 ∧ Blk w0 g4 48 (digC id)) ?_ ?_
    · skip
      refine CW.block ?_
      refine CW.seq fun K14 hK14 => ?_
      refine CW.region ?_
      refine WL.val (Y.indexAddrN Tryd.underlying35 rfl rfl sz0_apiOp (by omega)) (by decide) ?_
      refine WL.val (Y.load Tryd.underlying63 rfl ((hma.ext hE)) (sz_apiOp _) rfl) (by decide) ?_
      refine as_apiOp rfl (by simp) (by decide) fun g11 w4 hx4 hg11 hB11 => ?_
      have hlt11 := hB11.lt; have hz4 := hx4.size
      have hM11 := hB11.mem; have hz4 := hx4.size; have hE := hE.thenExt hx4; have hT := hT.ext hx4; have hB0 := hB0.ext hx4; have hl := hl.ext hx4; have hB4 := hB4.ext hx4
      refine WL.nil ?_
      refine hK14 _ _ ?_; try clear hK14 K14
      refine CW.seq fun K15 hK15 => ?_
      refine CW.region ?_
      refine WL.val (Y.fieldAddr fo_apiOp0 rfl) (by decide) ?_
      refine WL.val (Y.load1 Tryd.underlying3 rfl hB11.mem.op0 rfl) (by decide) ?_
      refine WL.val (Y.eql rfl rfl) (by decide) ?_
      refine WL.nil ?_
      refine hK15 _ _ ?_; try clear hK15 K15
      first | refine CW.condD rfl (fun ht16 => ?_) (fun ht16 => ?_) | refine CW.condND rfl (fun ht16 => ?_) (fun ht16 => ?_) | refine CW.condN rfl (fun ht16 => ?_) (fun ht16 => ?_) | refine CW.cond rfl (fun ht16 => ?_) (fun ht16 => ?_)
      · -- then
        refine CW.region ?_
        refine WL.val (Y.move rfl) (by decide) ?_
        refine WL.val (Y.add rfl rfl ⟨by omega, by omega⟩) (by decide) ?_
        refine WL.val (Y.assign rfl) (by decide) ?_
        refine WL.nil ?_
        refine ⟨(), ?_, hE, hB4⟩
        rw [hstep, if_pos (by assumption)]
        exact (by repeat (first | exact Fr.le.nil | refine Fr.le.cons rfl ?_))
      refine CW.skip ?_
      refine ⟨(), ?_, hE, hB4⟩
      rw [hstep, if_neg (by assumption)]
      exact (by repeat (first | exact Fr.le.nil | refine Fr.le.cons rfl ?_))
    rintro u w5 hj5
    obtain ⟨hE, hB4⟩ := hj5
    have hT := hTo.ext hE
    have hB0 := hT.blk
    have hl := hlo2.ext hE
    refine CW.region ?_
    refine WL.val (Y.add rfl rfl ⟨by omega, by omega⟩) (by decide) ?_
    refine WL.val (Y.move rfl) (by decide) ?_
    refine WL.nil ?_
    exact ⟨x + 1, (by show m - (x + 1) < m - x; omega), (by repeat (first | exact Fr.le.nil | refine Fr.le.cons rfl ?_)), (by show x + 1 ≤ m; omega), hE, hB4⟩
  refine CW.exit ?_
  refine hK8 _ _ ?_; try clear hK8 K8
  refine CW.seq fun K17 hK17 => ?_
  have htk : ops.take x = ops := List.take_of_length_le (by omega)
  have hins := hik x
  rw [htk] at hins ⊢
  have hnid : id ∉ ad := fun h => by
    have h9 := (AE.look hka id).trans (decide_eq_true h)
    simp_all
  refine CW.seq_test 49 (2000 < m ∨ 400000 < insN ops + (ns.length - 1)) ?_ ?_
  · refine CW.region ?_
    refine WL.val (Y.move rfl) (by decide) ?_
    refine WL.val (Y.len_slice Tryd.underlying35 rfl) (by decide) ?_
    refine WL.val (Y.gtr rfl rfl) (by decide) ?_
    refine WL.val (Y.move rfl) (by decide) ?_
    first | refine WL.casesD (d := 40) rfl (fun hg40 => ?_) (fun hg40 => ?_) | refine WL.casesND (d := 40) rfl (fun hg40 => ?_) (fun hg40 => ?_) | refine WL.cases (d := 40) rfl (fun hg40 => ?_) (fun hg40 => ?_)
    · -- t40 = T
      refine WL.goff rfl rfl (by decide) ?_
      refine WL.goff rfl rfl (by decide) ?_
      refine WL.goff rfl rfl (by decide) ?_
      refine WL.goff rfl rfl (by decide) ?_
      refine WL.goff rfl rfl (by decide) ?_
      refine WL.goff rfl rfl (by decide) ?_
      refine WL.goff rfl rfl (by decide) ?_
      refine WL.goff rfl rfl (by decide) ?_
      refine WL.val (Y.pick rfl rfl) (by decide) ?_
      refine WL.nil ⟨⟨_, rfl, ?_⟩, rfl, (by repeat (first | exact Fr.le.refl | refine Fr.le.push rfl ?_))⟩
      first | (simp only [*, Int.natCast_inj, Bool.not_eq_true', decide_eq_false_iff_not, decide_eq_true_eq, not_true_eq_false, not_false_eq_true, true_and, false_and, and_true, and_false, false_or, or_false, true_or, or_true, iff_true, true_iff, iff_false, false_iff]; done) | (simp_all; done) | (refine congrArg Value.bool (Bool.eq_iff_iff.2 ?_); simp_all; done) | (simp_all; omega)
    · -- t40 = F
      refine WL.gval rfl rfl (Y.move rfl) (by decide) ?_
      refine WL.gval rfl rfl (Y.move rfl) (by decide) ?_
      refine WL.gval rfl rfl (Y.nilCheck rfl) (by decide) ?_
      refine WL.gval rfl rfl (Y.fieldAddr fo_fugueTree1 rfl) (by decide) ?_
      refine WL.gval rfl rfl (Y.load1 Tryd.underlying85 rfl hB0.mem.fugueTree1 rfl) (by decide) ?_
      refine WL.gval rfl rfl (Y.len_map Tryd.underlying85 rfl (hMb.ext hE)) (by decide) ?_
      refine WL.gval rfl rfl (Y.sub rfl rfl ⟨by omega, by omega⟩) (by decide) ?_
      refine WL.gval rfl rfl (Y.gtr rfl rfl) (by decide) ?_
      refine WL.val (Y.pick rfl rfl) (by decide) ?_
      refine WL.nil ⟨⟨_, rfl, ?_⟩, rfl, (by repeat (first | exact Fr.le.refl | refine Fr.le.push rfl ?_))⟩
      first | (simp only [*, Int.natCast_inj, Bool.not_eq_true', decide_eq_false_iff_not, decide_eq_true_eq, not_true_eq_false, not_false_eq_true, true_and, false_and, and_true, and_false, false_or, or_false, true_or, or_true, iff_true, true_iff, iff_false, false_iff]; done) | (simp_all; done) | (refine congrArg Value.bool (Bool.eq_iff_iff.2 ?_); simp_all; done) | (simp_all; omega)
  first | refine CW.condD rfl (fun ht18 => ?_) (fun ht18 => ?_) | refine CW.condND rfl (fun ht18 => ?_) (fun ht18 => ?_) | refine CW.condN rfl (fun ht18 => ?_) (fun ht18 => ?_) | refine CW.cond rfl (fun ht18 => ?_) (fun ht18 => ?_)
  · -- then
    refine CW.seq fun K19 hK19 => ?_
    refine CW.region ?_
    refine WL.val (Y.assign rfl) (by decide) ?_
    refine WL.nil ?_
    refine hK19 _ _ ?_; try clear hK19 K19
    refine CW.ret ⟨_, rfl, ?_⟩
    exact ⟨by rw [wrongC, if_neg hnid, if_pos (by rw [hm, hel]; assumption)], hE⟩
  refine CW.skip ?_
  refine hK17 _ _ ?_; try clear hK17 K17
  refine CW.seq fun K20 hK20 => ?_
  refine CW.seq fun K21 hK21 => ?_
  refine CW.region ?_
  refine WL.val (Y.move rfl) (by decide) ?_
  refine WL.val (Y.len_slice Tryd.underlying35 rfl) (by decide) ?_
  refine WL.val (Y.move rfl) (by decide) ?_
  refine WL.nil ?_
  refine hK21 _ _ ?_; try clear hK21 K21
  refine CW.block ?_
  refine CW.loop (X := Nat) (fun x => [(0, .pointer (some ⟨g, 0, none⟩)), (2, .slice A m c), (4, .pointer (some ⟨g4, 0, none⟩)), (50, .slice A m c), (51, .int .i64 (m : Int)), (52, .int .i64 (x : Int))]) (fun x w0 => x ≤ m ∧ wrongN (els ns) ops x = 0 ∧ Ext w w0 ∧ Blk w0 g4 48 (digC id)) (fun x => m - x) 0 (by repeat (first | exact Fr.le.nil | refine Fr.le.cons rfl ?_)) ⟨Nat.zero_le _, rfl, hE, hB4⟩ ?_
  intro x w6 hl6
  obtain ⟨hxm, hwn, hE, hB4⟩ := hl6
  have hT := hTo.ext hE
  have hB0 := hT.blk
  have hl := hlo2.ext hE
  have hzl := hE.size
  have hb4 := hB4.lt
  have hn4 : ¬ (2000 < ops.length ∨ 400000 < insN ops + ((els ns).length - 1)) := by rw [hm, hel]; assumption
  refine CW.seq fun K22 hK22 => ?_
  refine CW.region ?_
  refine WL.val (Y.lss rfl rfl) (by decide) ?_
  refine WL.nil ?_
  refine hK22 _ _ ?_; try clear hK22 K22
  refine CW.seq fun K23 hK23 => ?_
  first | refine CW.condD rfl (fun ht24 => ?_) (fun ht24 => ?_) | refine CW.condND rfl (fun ht24 => ?_) (fun ht24 => ?_) | refine CW.condN rfl (fun ht24 => ?_) (fun ht24 => ?_) | refine CW.cond rfl (fun ht24 => ?_) (fun ht24 => ?_)
  · -- then
    refine CW.skip ?_
    refine hK23 _ _ ?_; try clear hK23 K23
    refine CW.seq fun K25 hK25 => ?_
    refine CW.block ?_
    refine CW.seq fun K26 hK26 => ?_
    obtain ⟨o, ho⟩ : ∃ o, ops[x]? = some o := ⟨_, List.getElem?_eq_getElem (by omega)⟩
    obtain ⟨aa, rfl, hma⟩ := hlo2.get ho
    refine CW.region ?_
    refine WL.val (Y.move rfl) (by decide) ?_
    refine WL.val (Y.indexAddrN Tryd.underlying35 rfl rfl sz0_apiOp (by omega)) (by decide) ?_
    refine WL.val (Y.load Tryd.underlying63 rfl (hma.ext hE) (sz_apiOp _) rfl) (by decide) ?_
    refine WL.alloc (hio) (hzo) rfl (by decide) fun g13 w7 hx7 hg13 hB13 => ?_
    have hlt13 := hB13.lt; have hz7 := hx7.size
    have hM13 := hB13.mem; have hz7 := hx7.size; have hE := hE.thenExt hx7; have hT := hT.ext hx7; have hB0 := hB0.ext hx7; have hl := hl.ext hx7; have hB4 := hB4.ext hx7
    refine WL.val (Y.assign rfl) (by decide) ?_
    refine WL.store (g := g13) (pre := []) (old := opC (⟨0, false, RefD.zero, 0⟩ : OpD)) (post := []) (new := opC o) rfl rfl rfl rfl (sz_apiOp _) (by simpa using hB13) (by first | rfl | (simp [digC_length, opC_length]; done) | (simp only [digC_length, opC_length]; omega)) (one_opC) (fun w8 hc8 hB8_ => ?_)
    have hz8 := hc8.size; have hE := hE.step hc8 (fun k h => by omega); have hT := hT.chg hc8 (fun k hk h => by have := hlo k hk; omega); have hB0 := hB0.chg hc8 (fun h => by omega); have hl := hlo2.ext hE; have hB4 := hB4.chg hc8 (fun h => by omega)
    have hB13 : Blk w8 g13 63 (opC o) := by simpa using hB8_
    refine WL.nil ?_
    refine hK26 _ _ ?_; try clear hK26 K26
    refine CW.seq fun K27 hK27 => ?_
    refine CW.seq fun K28 hK28 => ?_
    refine CW.region ?_
    refine WL.val (Y.move rfl) (by decide) ?_
    refine WL.val (Y.move rfl) (by decide) ?_
    refine WL.val (Y.add rfl rfl ⟨by omega, by omega⟩) (by decide) ?_
    refine WL.call Tryd.func55 rfl rfl rfl (right_any _ ops ((x : Int) + 1) _ hl ⟨by omega, by omega⟩) (by simp) ?_; rintro v w9 ⟨rfl, hx9⟩; have hz9 := hx9.size; have hE := hE.thenExt hx9; have hT := hT.ext hx9; have hB0 := hB0.ext hx9; have hl := hl.ext hx9; have hB4 := hB4.ext hx9; have hB13 := hB13.ext hx9
    refine WL.val (Y.assign rfl) (by decide) ?_
    refine WL.nil ?_
    refine hK28 _ _ ?_; try clear hK28 K28
    refine CW.seq fun K29 hK29 => ?_
    refine CW.region ?_
    refine WL.val (Y.move rfl) (by decide) ?_
    refine WL.val (Y.neq rfl rfl) (by decide) ?_
    refine WL.nil ?_
    refine hK29 _ _ ?_; try clear hK29 K29
    first | refine CW.condD rfl (fun ht30 => ?_) (fun ht30 => ?_) | refine CW.condND rfl (fun ht30 => ?_) (fun ht30 => ?_) | refine CW.condN rfl (fun ht30 => ?_) (fun ht30 => ?_) | refine CW.cond rfl (fun ht30 => ?_) (fun ht30 => ?_)
    · -- then
      refine CW.seq fun K31 hK31 => ?_
      refine CW.region ?_
      refine WL.val (Y.move rfl) (by decide) ?_
      refine WL.val (Y.assign rfl) (by decide) ?_
      refine WL.nil ?_
      refine hK31 _ _ ?_; try clear hK31 K31
      refine CW.ret ⟨_, rfl, ?_⟩
      exact ⟨by rw [wrongC, if_neg hnid, if_neg hn4, wrongN_end ho hwn (by rw [wrongAt, if_pos (by assumption)]; assumption), wrongAt, if_pos (by assumption)], hE⟩
    refine CW.skip ?_
    refine hK27 _ _ ?_; try clear hK27 K27
    have hRO := right_op ho (Decidable.not_not.1 (by assumption))
    have hk2 : refKind o.at_ = 2 ↔ o.at_ ≠ RefD.zero ∧ o.at_.own = false := ⟨fun h => ⟨(refKind_two h).2.2.2, (refKind_two h).1⟩, fun h => by
      rcases refB_kind hRO.ref h.2 with h1 | h1
      · exact absurd h1 h.1
      · exact h1.1⟩
    have hbn := byA_none ns o.at_
    refine CW.seq_testE 83 (refKind o.at_ = 2 ∧ atE (els ns) o.at_ = none) ?_ ?_
    · refine CW.quiet (fun wq => Ext w9 wq) (by kernel_rfl) (by kernel_rfl) Chg.drew ?_
      refine QL.val (fun wq hq => Y.fieldAddr fo_apiOp2 rfl) (by decide) ?_
      refine QL.val (fun wq hq => Y.load Tryd.underlying50 rfl (hB13.ext hq).mem.op2 (sz_apiRef _) rfl) (by decide) ?_
      refine QL.val (fun wq hq => Y.build0 (build_apiRef _)) (by decide) ?_
      refine QL.val (fun wq hq => Y.neq_apiRef rfl rfl) (by decide) ?_
      refine QL.val (fun wq hq => Y.move rfl) (by decide) ?_
      first | refine QL.casesD (d := 68) rfl (fun hg68 => ?_) (fun hg68 => ?_) | refine QL.casesND (d := 68) rfl (fun hg68 => ?_) (fun hg68 => ?_) | refine QL.cases (d := 68) rfl (fun hg68 => ?_) (fun hg68 => ?_)
      · -- t68 = T
        refine QL.gval rfl rfl (fun wq hq => Y.fieldAddr fo_apiOp2 rfl) (by decide) ?_
        refine QL.gval rfl rfl (fun wq hq => Y.fieldAddr fo_apiRef0 rfl) (by decide) ?_
        refine QL.gval rfl rfl (fun wq hq => Y.load1 Tryd.underlying4 rfl (hB13.ext hq).mem.op2.ref0 rfl) (by decide) ?_
        refine QL.gval rfl rfl (fun wq hq => Y.not rfl) (by decide) ?_
        refine QL.val (fun wq hq => Y.pick rfl rfl) (by decide) ?_
        refine QL.val (fun wq hq => Y.move rfl) (by decide) ?_
        first | refine QL.casesD (d := 74) rfl (fun hg74 => ?_) (fun hg74 => ?_) | refine QL.casesND (d := 74) rfl (fun hg74 => ?_) (fun hg74 => ?_) | refine QL.cases (d := 74) rfl (fun hg74 => ?_) (fun hg74 => ?_)
        · -- t74 = T
          refine QL.gval rfl rfl (fun wq hq => Y.move rfl) (by decide) ?_
          refine QL.gval rfl rfl (fun wq hq => Y.nilCheck rfl) (by decide) ?_
          refine QL.gval rfl rfl (fun wq hq => Y.fieldAddr fo_fugueTree1 rfl) (by decide) ?_
          refine QL.gval rfl rfl (fun wq hq => Y.load1 Tryd.underlying85 rfl (hB0.ext hq).mem.fugueTree1 rfl) (by decide) ?_
          refine QL.gval rfl rfl (fun wq hq => Y.fieldAddr fo_apiOp2 rfl) (by decide) ?_
          refine QL.gval rfl rfl (fun wq hq => Y.load Tryd.underlying50 rfl (hB13.ext hq).mem.op2 (sz_apiRef _) rfl) (by decide) ?_
          refine QL.gval rfl rfl (fun wq hq => Y.lookB (hT.ext hq) hG rfl rfl) (by decide) ?_
          refine QL.gval rfl rfl (fun wq hq => Y.eql_fuguenode rfl rfl) (by decide) ?_
          refine QL.val (fun wq hq => Y.pick rfl rfl) (by decide) ?_
          refine QL.nil fun wq hq => ⟨⟨_, rfl, ?_⟩, hq, (by repeat (first | exact Fr.le.refl | refine Fr.le.push rfl ?_))⟩
          first | (simp only [*, Int.natCast_inj, Bool.not_eq_true', decide_eq_false_iff_not, decide_eq_true_eq, not_true_eq_false, not_false_eq_true, true_and, false_and, and_true, and_false, false_or, or_false, true_or, or_true, iff_true, true_iff, iff_false, false_iff]; done) | (simp_all; done) | (refine congrArg Value.bool (Bool.eq_iff_iff.2 ?_); simp_all; done) | (simp_all; omega)
        · -- t74 = F
          refine QL.goff rfl rfl (by decide) ?_
          refine QL.goff rfl rfl (by decide) ?_
          refine QL.goff rfl rfl (by decide) ?_
          refine QL.goff rfl rfl (by decide) ?_
          refine QL.goff rfl rfl (by decide) ?_
          refine QL.goff rfl rfl (by decide) ?_
          refine QL.goff rfl rfl (by decide) ?_
          refine QL.goff rfl rfl (by decide) ?_
          refine QL.val (fun wq hq => Y.pick rfl rfl) (by decide) ?_
          refine QL.nil fun wq hq => ⟨⟨_, rfl, ?_⟩, hq, (by repeat (first | exact Fr.le.refl | refine Fr.le.push rfl ?_))⟩
          first | (simp only [*, Int.natCast_inj, Bool.not_eq_true', decide_eq_false_iff_not, decide_eq_true_eq, not_true_eq_false, not_false_eq_true, true_and, false_and, and_true, and_false, false_or, or_false, true_or, or_true, iff_true, true_iff, iff_false, false_iff]; done) | (simp_all; done) | (refine congrArg Value.bool (Bool.eq_iff_iff.2 ?_); simp_all; done) | (simp_all; omega)
      · -- t68 = F
        refine QL.goff rfl rfl (by decide) ?_
        refine QL.goff rfl rfl (by decide) ?_
        refine QL.goff rfl rfl (by decide) ?_
        refine QL.goff rfl rfl (by decide) ?_
        refine QL.val (fun wq hq => Y.pick rfl rfl) (by decide) ?_
        refine QL.val (fun wq hq => Y.move rfl) (by decide) ?_
        refine QL.goff rfl rfl (by decide) ?_
        refine QL.goff rfl rfl (by decide) ?_
        refine QL.goff rfl rfl (by decide) ?_
        refine QL.goff rfl rfl (by decide) ?_
        refine QL.goff rfl rfl (by decide) ?_
        refine QL.goff rfl rfl (by decide) ?_
        refine QL.goff rfl rfl (by decide) ?_
        refine QL.goff rfl rfl (by decide) ?_
        refine QL.val (fun wq hq => Y.pick rfl rfl) (by decide) ?_
        refine QL.nil fun wq hq => ⟨⟨_, rfl, ?_⟩, hq, (by repeat (first | exact Fr.le.refl | refine Fr.le.push rfl ?_))⟩
        first | (simp only [*, Int.natCast_inj, Bool.not_eq_true', decide_eq_false_iff_not, decide_eq_true_eq, not_true_eq_false, not_false_eq_true, true_and, false_and, and_true, and_false, false_or, or_false, true_or, or_true, iff_true, true_iff, iff_false, false_iff]; done) | (simp_all; done) | (refine congrArg Value.bool (Bool.eq_iff_iff.2 ?_); simp_all; done) | (simp_all; omega)
    intro w10 hx10; have hz10 := hx10.size; have hE := hE.thenExt hx10; have hT := hT.ext hx10; have hB0 := hB0.ext hx10; have hl := hl.ext hx10; have hB4 := hB4.ext hx10; have hB13 := hB13.ext hx10
    first | refine CW.condD rfl (fun ht32 => ?_) (fun ht32 => ?_) | refine CW.condND rfl (fun ht32 => ?_) (fun ht32 => ?_) | refine CW.condN rfl (fun ht32 => ?_) (fun ht32 => ?_) | refine CW.cond rfl (fun ht32 => ?_) (fun ht32 => ?_)
    · -- then
      refine CW.seq fun K33 hK33 => ?_
      refine CW.region ?_
      refine WL.val (Y.assign rfl) (by decide) ?_
      refine WL.nil ?_
      refine hK33 _ _ ?_; try clear hK33 K33
      refine CW.ret ⟨_, rfl, ?_⟩
      have hwa : wrongAt (els ns) ops x o = 5 := by rw [wrongAt, if_neg (by assumption), if_pos (by assumption)]
      exact ⟨by rw [wrongC, if_neg hnid, if_neg hn4, wrongN_end ho hwn (by rw [hwa]; decide), hwa], hE⟩
    refine CW.skip ?_
    refine hK25 _ _ ?_; try clear hK25 K25
    refine CW.region ?_
    refine WL.val (Y.add rfl rfl ⟨by omega, by omega⟩) (by decide) ?_
    refine WL.val (Y.move rfl) (by decide) ?_
    refine WL.nil ?_
    exact ⟨x + 1, (by show m - (x + 1) < m - x; omega), (by repeat (first | exact Fr.le.nil | refine Fr.le.cons rfl ?_)), (by show x + 1 ≤ m; omega), (by rw [wrongN_at ho hwn, wrongAt, if_neg (by assumption), if_neg (by assumption)]), hE, hB4⟩
  refine CW.exit ?_
  refine hK20 _ _ ?_; try clear hK20 K20
  refine CW.seq fun K34 hK34 => ?_
  refine CW.region ?_
  refine WL.val (Y.assign rfl) (by decide) ?_
  refine WL.nil ?_
  refine hK34 _ _ ?_; try clear hK34 K34
  refine CW.ret ⟨_, rfl, ?_⟩
  have hxe : x = ops.length := by omega
  exact ⟨by rw [wrongC, if_neg hnid, if_neg hn4, ← hxe, hwn], hE⟩
end Go.Proofs.YtjbeooimhoilmaaDoor
