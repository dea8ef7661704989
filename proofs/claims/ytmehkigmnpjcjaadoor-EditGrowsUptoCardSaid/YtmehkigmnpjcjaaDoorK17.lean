/- Parts of a proof: what its last text leans on. No condition. -/
import Derived.Lib.Overlaps
import Derived.Lib.AppendZerosOnto
import Derived.Test.YtmehkigmnpjcjaaDoorK04
import Derived.Test.YtmehkigmnpjcjaaDoorK09
import Derived.Test.YtmehkigmnpjcjaaDoorK10
import Derived.Test.YtmehkigmnpjcjaaDoorK16
set_option linter.unusedSimpArgs false
set_option linter.unusedVariables false
/- Fugue's tree: order, wrong, walked. No condition. -/
namespace Go.Proofs.YtmehkigmnpjcjaaDoor
open Go.RowKit Go.Fw Go.Fu Go.Pl
noncomputable def ordI (a b : RefD) : Int := if a.c = b.c then a.n - b.n else if lessB a.c b.c = true then -1 else 1
theorem forder_any (a b : Nat) (x y : El) (lv rv lv' rv' : Value) (w : World) (hBa : Blk w a TN (nodeC x lv rv)) (hBb : Blk w b TN (nodeC y lv' rv')) (hi : InI64 (x.name.n - y.name.n)) : Calls Tryd.prog 38 #[.pointer (some ⟨a, 0, none⟩), .pointer (some ⟨b, 0, none⟩)] w (Ret fun v w' => v = .int .i64 (ordI x.name y.name) ∧ Ext w w') := by
 refine calls_of_CW 40 [4] [(0, .pointer (some ⟨a, 0, none⟩)), (1, .pointer (some ⟨b, 0, none⟩))] Tryd.func38 rfl rfl rfl (by simp) args2 ?_
 have hE : Ext w w := Chg.refl
 refine CW.sr fun K1 hK1 => ?_
 refine WL.a rfl ?_
 refine WL.nil (hK1 _ _ ?_); try clear hK1
 refine CW.seq fun K2 hK2 => ?_
 refine CW.block ?_
 refine CW.seq fun K3 hK3 => ?_
 refine CW.quiet (fun wq => Ext w wq) kr_ kr_ Chg.drew ?_
 refine QL.m rfl ?_
 refine QL.v (fun wq hq => Y.nilCheck rfl) ?_
 refine QL.v (fun wq hq => Y.fieldAddr fo_fuguenode0 rfl) ?_
 refine QL.v (fun wq hq => Y.fieldAddr fo_apiRef1 rfl) ?_
 refine QL.v (fun wq hq => Y.load Tryd.underlying36 rfl (hBa.ext hq).mem.fuguenode0.ref1 (sz_apiDigest _) rfl) ?_
 refine QL.m rfl ?_
 refine QL.v (fun wq hq => Y.nilCheck rfl) ?_
 refine QL.v (fun wq hq => Y.fieldAddr fo_fuguenode0 rfl) ?_
 refine QL.v (fun wq hq => Y.fieldAddr fo_apiRef1 rfl) ?_
 refine QL.v (fun wq hq => Y.load Tryd.underlying36 rfl (hBb.ext hq).mem.fuguenode0.ref1 (sz_apiDigest _) rfl) ?_
 refine QL.v (fun wq hq => Y.eql_apiDigest rfl rfl) ?_
 refine QL.a rfl ?_
 refine QL.nil fun w1 hx1 => ?_
 have hz1 := hx1.size
 have hE := hE.thenExt hx1
 have hBa := hBa.ext hx1
 have hBb := hBb.ext hx1
 refine hK3 _ _ ?_; try clear hK3
 (first | refine cd_ rfl ?_ ?_ | refine ce_ rfl ?_ ?_ | refine cn_ rfl ?_ ?_ | refine cb_ rfl ?_ ?_) <;> intro ht4
 ·
  -- then
  refine CW.seq fun K5 hK5 => ?_
  refine CW.quiet (fun wq => Ext w1 wq) kr_ kr_ Chg.drew ?_
  refine QL.m rfl ?_
  refine QL.v (fun wq hq => Y.nilCheck rfl) ?_
  refine QL.v (fun wq hq => Y.fieldAddr fo_fuguenode0 rfl) ?_
  refine QL.v (fun wq hq => Y.fieldAddr fo_apiRef2 rfl) ?_
  refine QL.v (fun wq hq => Y.load1 Tryd.underlying3 rfl (hBa.ext hq).mem.fuguenode0.ref2 rfl) ?_
  refine QL.m rfl ?_
  refine QL.v (fun wq hq => Y.nilCheck rfl) ?_
  refine QL.v (fun wq hq => Y.fieldAddr fo_fuguenode0 rfl) ?_
  refine QL.v (fun wq hq => Y.fieldAddr fo_apiRef2 rfl) ?_
  refine QL.v (fun wq hq => Y.load1 Tryd.underlying3 rfl (hBb.ext hq).mem.fuguenode0.ref2 rfl) ?_
  refine QL.v (fun wq hq => Y.sub rfl rfl o2_) ?_
  refine QL.a rfl ?_
  refine QL.nil fun w2 hx2 => ?_
  have hz2 := hx2.size
  have hE := hE.thenExt hx2
  have hBa := hBa.ext hx2
  have hBb := hBb.ext hx2
  refine hK5 _ _ ?_; try clear hK5
  refine CW.ret ⟨_, rfl, ?_⟩
  exact ⟨by rw [ordI, if_pos (by assumption)], hE⟩
 refine CW.seq fun K6 hK6 => ?_
 refine CW.quiet (fun wq => Ext w1 wq) kr_ kr_ Chg.drew ?_
 refine QL.m rfl ?_
 refine QL.v (fun wq hq => Y.nilCheck rfl) ?_
 refine QL.v (fun wq hq => Y.fieldAddr fo_fuguenode0 rfl) ?_
 refine QL.v (fun wq hq => Y.fieldAddr fo_apiRef1 rfl) ?_
 refine QL.v (fun wq hq => Y.load Tryd.underlying36 rfl (hBa.ext hq).mem.fuguenode0.ref1 (sz_apiDigest _) rfl) ?_
 refine QL.m rfl ?_
 refine QL.v (fun wq hq => Y.nilCheck rfl) ?_
 refine QL.v (fun wq hq => Y.fieldAddr fo_fuguenode0 rfl) ?_
 refine QL.v (fun wq hq => Y.fieldAddr fo_apiRef1 rfl) ?_
 refine QL.v (fun wq hq => Y.load Tryd.underlying36 rfl (hBb.ext hq).mem.fuguenode0.ref1 (sz_apiDigest _) rfl) ?_
 refine QL.call Tryd.func58 rfl rfl rfl (fun wq hq => ret_ext (less_any _ _ wq) hq) (by simp) ?_
 refine QL.a rfl ?_
 refine QL.nil fun w3 hx3 => ?_
 have hz3 := hx3.size
 have hE := hE.thenExt hx3
 have hBa := hBa.ext hx3
 have hBb := hBb.ext hx3
 refine hK6 _ _ ?_; try clear hK6
 (first | refine cd_ rfl ?_ ?_ | refine ce_ rfl ?_ ?_ | refine cn_ rfl ?_ ?_ | refine cb_ rfl ?_ ?_) <;> intro ht7
 ·
  -- then
  refine CW.sr fun K8 hK8 => ?_
  refine WL.a rfl ?_
  refine WL.nil (hK8 _ _ ?_); try clear hK8
  refine CW.ret ⟨_, rfl, ?_⟩
  exact ⟨by rw [ordI, if_neg (by assumption), if_pos (by assumption)], hE⟩
 refine CW.skip ?_
 refine hK2 _ _ ?_; try clear hK2
 refine CW.sr fun K9 hK9 => ?_
 refine WL.a rfl ?_
 refine WL.nil (hK9 _ _ ?_); try clear hK9
 refine CW.ret ⟨_, rfl, ?_⟩
 exact ⟨by rw [ordI, if_neg (by assumption), if_neg (by simp_all)], hE⟩
theorem fwrong_any (g rb ra : Nat) (ad : List Dig) (ns : List Nn) (id : Dig) (u : Value) (ops : List OpD) (w : World) (hT : FtAt w g rb ra ad ns) (hG : Fu.Good (els ns)) (hn : ns.length ≤ 400001) (hl : Sl w opC 37 u ops) : Calls Tryd.prog 35 #[.pointer (some ⟨g, 0, none⟩), digV id, u] w (Ret fun v w' => v = .int .i64 (wrongC ⟨ad, els ns⟩ id ops) ∧ Ext w w') := by
 have hB0 := hT.blk
 have hlo : ∀ k, Fp g rb ra ns k → k < w.heap.size := fun k hk => hT.lt hk
 have hg0 := hB0.lt
 obtain ⟨A, m, c, rfl, hm, hmc, hcm, _⟩ := _root_.id hl
 unfold maxLen at hcm
 have hlo2 := hl
 have hTo := hT
 obtain ⟨cla, la, hMa, _, _, _, hka⟩ := hT.added
 obtain ⟨clb, lb, hMb, _, _, hlb, _⟩ := hT.by_
 have hel : (els ns).length = ns.length := List.length_map _
 obtain ⟨io, hio, hzo, hso⟩ := info_apiOp
 have hik : ∀ k, insN (ops.take k) ≤ k := fun k => by
  have h1 := List.countP_le_length (p := fun x : OpD => decide (x.kind = 1)) (l := ops.take k)
  rw [List.length_take] at h1
  unfold insN; omega
 refine calls_of_CW 85 [6] [(0, .pointer (some ⟨g, 0, none⟩)), (1, digV id), (2, .slice A m c)] Tryd.func35 rfl rfl rfl (by simp) args3 ?_
 have hE : Ext w w := Chg.refl
 refine CW.sr fun K1 hK1 => ?_
 refine WL.box rfl rfl de_ fun g4 w1 hx1 hg4 hB4 => ?_
 have hlt4 := hB4.lt; have hz1 := hx1.size
 have hM4 := hB4.mem; have hz1 := hx1.size; have hE := hE.thenExt hx1; have hT := hT.ext hx1; have hB0 := hB0.ext hx1; have hl := hl.ext hx1
 refine WL.a rfl ?_
 refine WL.nil (hK1 _ _ ?_); try clear hK1
 refine CW.seq fun K2 hK2 => ?_
 refine CW.seq fun K3 hK3 => ?_
 refine CW.quiet (fun wq => Ext w1 wq) kr_ kr_ Chg.drew ?_
 refine QL.m rfl ?_
 refine QL.v (fun wq hq => Y.nilCheck rfl) ?_
 refine QL.v (fun wq hq => Y.fieldAddr fo_fugueTree2 rfl) ?_
 refine QL.v (fun wq hq => Y.load1 Tryd.underlying73 rfl (hB0.ext hq).mem.fugueTree2 rfl) ?_
 refine QL.v (fun wq hq => Y.load Tryd.underlying36 rfl (hB4.ext hq).mem (sz_apiDigest _) rfl) ?_
 refine QL.v (fun wq hq => Y.lookupOk keyDig (fun _ => rfl) UMA zero_int rfl rfl ((hMa.ext hE).ext hq)) ?_
 refine QL.m rfl ?_
 refine QL.v (fun wq hq => Y.extract rfl rfl) ?_
 refine QL.v (fun wq hq => Y.extract rfl rfl) ?_
 refine QL.a rfl ?_
 refine QL.a rfl ?_
 refine QL.nil fun w2 hx2 => ?_
 have hz2 := hx2.size
 have hE := hE.thenExt hx2
 have hT := hT.ext hx2
 have hB0 := hB0.ext hx2
 have hl := hl.ext hx2
 have hB4 := hB4.ext hx2
 refine hK3 _ _ ?_; try clear hK3
 refine CW.sr fun K4 hK4 => ?_
 refine WL.m rfl ?_
 refine WL.nil (hK4 _ _ ?_); try clear hK4
 (first | refine cd_ rfl ?_ ?_ | refine ce_ rfl ?_ ?_ | refine cn_ rfl ?_ ?_ | refine cb_ rfl ?_ ?_) <;> intro ht5
 ·
  -- then
  refine CW.sr fun K6 hK6 => ?_
  refine WL.a rfl ?_
  refine WL.nil (hK6 _ _ ?_); try clear hK6
  refine CW.ret ⟨_, rfl, ?_⟩
  exact ⟨by rw [wrongC, if_pos (of_decide_eq_true ((AE.look hka id).symm.trans (by assumption)))], hE⟩
 refine CW.skip ?_
 refine hK2 _ _ ?_; try clear hK2
 refine CW.sr fun K7 hK7 => ?_
 refine WL.a rfl ?_
 refine WL.nil (hK7 _ _ ?_); try clear hK7
 refine CW.seq fun K8 hK8 => ?_
 refine CW.sr fun K9 hK9 => ?_
 refine WL.m rfl ?_
 refine WL.v (Y.len_slice Tryd.underlying27 rfl) ?_
 refine WL.m rfl ?_
 refine WL.nil (hK9 _ _ ?_); try clear hK9
 refine CW.block ?_
 refine CW.loop (X := Nat) (fun x => [(0, .pointer (some ⟨g, 0, none⟩)), (2, .slice A m c), (4, .pointer (some ⟨g4, 0, none⟩)), (9, .int .i64 (insN (ops.take x) : Int)), (25, .slice A m c), (26, .int .i64 (m : Int)), (27, .int .i64 (x : Int))]) (fun x w0 => x ≤ m ∧ Ext w w0 ∧ Blk w0 g4 36 (digC id)) (fun x => m - x) 0 Fr.ok ⟨Nat.zero_le _, hE, hB4⟩ ?_
 intro x w3 hl3
 obtain ⟨hxm, hE, hB4⟩ := hl3
 have hT := hTo.ext hE
 have hB0 := hT.blk
 have hl := hlo2.ext hE
 have hzl := hE.size
 refine CW.sr fun K10 hK10 => ?_
 refine WL.v (Y.lss rfl rfl) ?_
 refine WL.nil (hK10 _ _ ?_); try clear hK10
 refine CW.seq fun K11 hK11 => ?_
 (first | refine cd_ rfl ?_ ?_ | refine ce_ rfl ?_ ?_ | refine cn_ rfl ?_ ?_ | refine cb_ rfl ?_ ?_) <;> intro ht12
 ·
  -- then
  refine CW.skip ?_
  refine hK11 _ _ ?_; try clear hK11
  obtain ⟨o, ho⟩ : ∃ o, ops[x]? = some o := ⟨_, List.getElem?_eq_getElem om_⟩
  obtain ⟨aa, rfl, hma⟩ := hlo2.get ho
  have hstep := insN_step (ops := ops) ho
  have hix := hik x
  refine CW.seq_to (X := Unit) (fun _ => [(0, .pointer (some ⟨g, 0, none⟩)), (2, .slice (some aa) m c), (4, .pointer (some ⟨g4, 0, none⟩)), (9, .int .i64 (insN (ops.take (x + 1)) : Int)), (25, .slice (some aa) m c), (26, .int .i64 (m : Int)), (27, .int .i64 (x : Int))]) (fun _ w0 => Ext w w0 ∧ Blk w0 g4 36 (digC id)) ?_ ?_
  ·
   skip
   refine CW.block ?_
   refine CW.sr fun K14 hK14 => ?_
   refine WL.v (Y.indexAddrN Tryd.underlying27 rfl rfl sz0_apiOp om_) ?_
   refine WL.v (Y.load Tryd.underlying62 rfl ((hma.ext hE)) (sz_apiOp _) rfl) ?_
   refine as_apiOp rfl (by simp) de_ fun g11 w4 hx4 hg11 hB11 => ?_
   have hlt11 := hB11.lt; have hz4 := hx4.size
   have hM11 := hB11.mem; have hz4 := hx4.size; have hE := hE.thenExt hx4; have hT := hT.ext hx4; have hB0 := hB0.ext hx4; have hl := hl.ext hx4; have hB4 := hB4.ext hx4
   refine WL.nil (hK14 _ _ ?_); try clear hK14
   refine CW.sr fun K15 hK15 => ?_
   refine WL.v (Y.fieldAddr fo_apiOp0 rfl) ?_
   refine WL.v (Y.load1 Tryd.underlying3 rfl hB11.mem.op0 rfl) ?_
   refine WL.v (Y.eql rfl rfl) ?_
   refine WL.nil (hK15 _ _ ?_); try clear hK15
   (first | refine cd_ rfl ?_ ?_ | refine ce_ rfl ?_ ?_ | refine cn_ rfl ?_ ?_ | refine cb_ rfl ?_ ?_) <;> intro ht16
   ·
    -- then
    refine CW.region ?_
    refine WL.m rfl ?_
    refine WL.v (Y.add rfl rfl o2_) ?_
    refine WL.a rfl ?_
    refine WL.nil ?_
    refine ⟨(), ?_, hE, hB4⟩
    rw [hstep, if_pos (by assumption)]
    exact Fr.ok
   refine CW.skip ?_
   refine ⟨(), ?_, hE, hB4⟩
   rw [hstep, if_neg (by assumption)]
   exact Fr.ok
  rintro u w5 hj5
  obtain ⟨hE, hB4⟩ := hj5
  have hT := hTo.ext hE
  have hB0 := hT.blk
  have hl := hlo2.ext hE
  refine CW.region ?_
  refine WL.v (Y.add rfl rfl o2_) ?_
  refine WL.m rfl ?_
  refine WL.nil ?_
  exact ⟨x + 1, (by show m - (x + 1) < m - x; omega), Fr.ok, (by show x + 1 ≤ m; omega), hE, hB4⟩
 refine CW.exit ?_
 refine hK8 _ _ ?_; try clear hK8
 refine CW.seq fun K17 hK17 => ?_
 have htk : ops.take x = ops := List.take_of_length_le om_
 have hins := hik x
 rw [htk] at hins ⊢
 have hnid : id ∉ ad := fun h => by
  have h9 := (AE.look hka id).trans (decide_eq_true h)
  simp_all
 refine CW.seq_test 49 (2000 < m ∨ 400000 < insN ops + (ns.length - 1)) ?_ ?_
 ·
  refine CW.region ?_
  refine WL.m rfl ?_
  refine WL.v (Y.len_slice Tryd.underlying27 rfl) ?_
  refine WL.v (Y.gtr rfl rfl) ?_
  refine WL.m rfl ?_
  (first | refine WL.casesD (d := 40) rfl ?_ ?_ | refine WL.casesND (d := 40) rfl ?_ ?_ | refine WL.cases (d := 40) rfl ?_ ?_) <;> intro hg40
  ·
   -- t40 = T
   refine WL.o rfl rfl ?_
   refine WL.o rfl rfl ?_
   refine WL.o rfl rfl ?_
   refine WL.o rfl rfl ?_
   refine WL.o rfl rfl ?_
   refine WL.o rfl rfl ?_
   refine WL.o rfl rfl ?_
   refine WL.o rfl rfl ?_
   refine WL.v (Y.pick rfl rfl) ?_
   refine WL.nil ⟨⟨_, rfl, ?_⟩, rfl, Fr.okp⟩
   exact tst_ok
  ·
   -- t40 = F
   refine WL.g rfl rfl (Y.move rfl) ?_
   refine WL.g rfl rfl (Y.move rfl) ?_
   refine WL.g rfl rfl (Y.nilCheck rfl) ?_
   refine WL.g rfl rfl (Y.fieldAddr fo_fugueTree1 rfl) ?_
   refine WL.g rfl rfl (Y.load1 Tryd.underlying105 rfl hB0.mem.fugueTree1 rfl) ?_
   refine WL.g rfl rfl (Y.len_map Tryd.underlying105 rfl (hMb.ext hE)) ?_
   refine WL.g rfl rfl (Y.sub rfl rfl o2_) ?_
   refine WL.g rfl rfl (Y.gtr rfl rfl) ?_
   refine WL.v (Y.pick rfl rfl) ?_
   refine WL.nil ⟨⟨_, rfl, ?_⟩, rfl, Fr.okp⟩
   exact tst_ok
 (first | refine cd_ rfl ?_ ?_ | refine ce_ rfl ?_ ?_ | refine cn_ rfl ?_ ?_ | refine cb_ rfl ?_ ?_) <;> intro ht18
 ·
  -- then
  refine CW.sr fun K19 hK19 => ?_
  refine WL.a rfl ?_
  refine WL.nil (hK19 _ _ ?_); try clear hK19
  refine CW.ret ⟨_, rfl, ?_⟩
  exact ⟨by rw [wrongC, if_neg hnid, if_pos (by rw [hm, hel]; assumption)], hE⟩
 refine CW.skip ?_
 refine hK17 _ _ ?_; try clear hK17
 refine CW.seq fun K20 hK20 => ?_
 refine CW.sr fun K21 hK21 => ?_
 refine WL.m rfl ?_
 refine WL.v (Y.len_slice Tryd.underlying27 rfl) ?_
 refine WL.m rfl ?_
 refine WL.nil (hK21 _ _ ?_); try clear hK21
 refine CW.block ?_
 refine CW.loop (X := Nat) (fun x => [(0, .pointer (some ⟨g, 0, none⟩)), (2, .slice A m c), (4, .pointer (some ⟨g4, 0, none⟩)), (50, .slice A m c), (51, .int .i64 (m : Int)), (52, .int .i64 (x : Int))]) (fun x w0 => x ≤ m ∧ wrongN (els ns) ops x = 0 ∧ Ext w w0 ∧ Blk w0 g4 36 (digC id)) (fun x => m - x) 0 Fr.ok ⟨Nat.zero_le _, rfl, hE, hB4⟩ ?_
 intro x w6 hl6
 obtain ⟨hxm, hwn, hE, hB4⟩ := hl6
 have hT := hTo.ext hE
 have hB0 := hT.blk
 have hl := hlo2.ext hE
 have hzl := hE.size
 have hb4 := hB4.lt
 have hn4 : ¬ (2000 < ops.length ∨ 400000 < insN ops + ((els ns).length - 1)) := by rw [hm, hel]; assumption
 refine CW.sr fun K22 hK22 => ?_
 refine WL.v (Y.lss rfl rfl) ?_
 refine WL.nil (hK22 _ _ ?_); try clear hK22
 refine CW.seq fun K23 hK23 => ?_
 (first | refine cd_ rfl ?_ ?_ | refine ce_ rfl ?_ ?_ | refine cn_ rfl ?_ ?_ | refine cb_ rfl ?_ ?_) <;> intro ht24
 ·
  -- then
  refine CW.skip ?_
  refine hK23 _ _ ?_; try clear hK23
  refine CW.seq fun K25 hK25 => ?_
  refine CW.block ?_
  refine CW.seq fun K26 hK26 => ?_
  obtain ⟨o, ho⟩ : ∃ o, ops[x]? = some o := ⟨_, List.getElem?_eq_getElem om_⟩
  obtain ⟨aa, rfl, hma⟩ := hlo2.get ho
  refine CW.region ?_
  refine WL.m rfl ?_
  refine WL.v (Y.indexAddrN Tryd.underlying27 rfl rfl sz0_apiOp om_) ?_
  refine WL.v (Y.load Tryd.underlying62 rfl (hma.ext hE) (sz_apiOp _) rfl) ?_
  refine WL.alloc (hio) (hzo) rfl de_ fun g13 w7 hx7 hg13 hB13 => ?_
  have hlt13 := hB13.lt; have hz7 := hx7.size
  have hM13 := hB13.mem; have hz7 := hx7.size; have hE := hE.thenExt hx7; have hT := hT.ext hx7; have hB0 := hB0.ext hx7; have hl := hl.ext hx7; have hB4 := hB4.ext hx7
  refine WL.a rfl ?_
  refine WL.store (g := g13) (pre := []) (old := opC (⟨0, false, RefD.zero, 0⟩ : OpD)) (post := []) (new := opC o) rfl rfl rfl rfl (sz_apiOp _) (by simpa using hB13) ln_ (one_opC) (fun w8 hc8 hB8_ => ?_)
  have hz8 := hc8.size; have hE := hE.step hc8 (fun k h => by omega); have hT := hT.chg hc8 (fun k hk h => by have := hlo k hk; omega); have hB0 := hB0.chg hc8 no_; have hl := hlo2.ext hE; have hB4 := hB4.chg hc8 no_
  have hB13 : Blk w8 g13 62 (opC o) := by simpa using hB8_
  refine WL.nil (hK26 _ _ ?_); try clear hK26
  refine CW.seq fun K27 hK27 => ?_
  refine CW.sr fun K28 hK28 => ?_
  refine WL.m rfl ?_
  refine WL.m rfl ?_
  refine WL.v (Y.add rfl rfl o2_) ?_
  refine WL.call Tryd.func57 rfl rfl rfl (right_any _ ops ((x : Int) + 1) _ hl o2_) (by simp) ?_; rintro v w9 ⟨rfl, hx9⟩; have hz9 := hx9.size; have hE := hE.thenExt hx9; have hT := hT.ext hx9; have hB0 := hB0.ext hx9; have hl := hl.ext hx9; have hB4 := hB4.ext hx9; have hB13 := hB13.ext hx9
  refine WL.a rfl ?_
  refine WL.nil (hK28 _ _ ?_); try clear hK28
  refine CW.sr fun K29 hK29 => ?_
  refine WL.m rfl ?_
  refine WL.v (Y.neq rfl rfl) ?_
  refine WL.nil (hK29 _ _ ?_); try clear hK29
  (first | refine cd_ rfl ?_ ?_ | refine ce_ rfl ?_ ?_ | refine cn_ rfl ?_ ?_ | refine cb_ rfl ?_ ?_) <;> intro ht30
  ·
   -- then
   refine CW.sr fun K31 hK31 => ?_
   refine WL.m rfl ?_
   refine WL.a rfl ?_
   refine WL.nil (hK31 _ _ ?_); try clear hK31
   refine CW.ret ⟨_, rfl, ?_⟩
   exact ⟨by rw [wrongC, if_neg hnid, if_neg hn4, wrongN_end ho hwn (by rw [wrongAt, if_pos (by assumption)]; assumption), wrongAt, if_pos (by assumption)], hE⟩
  refine CW.skip ?_
  refine hK27 _ _ ?_; try clear hK27
  have hRO := right_op ho (Decidable.not_not.1 (by assumption))
  have hk2 : refKind o.at_ = 2 ↔ o.at_ ≠ RefD.zero ∧ o.at_.own = false := ⟨fun h => ⟨(refKind_two h).2.2.2, (refKind_two h).1⟩, fun h => by
   rcases refB_kind hRO.ref h.2 with h1 | h1
   ·
    exact absurd h1 h.1
   ·
    exact h1.1⟩
  have hbn := byA_none ns o.at_
  refine CW.seq_testE 83 (refKind o.at_ = 2 ∧ atE (els ns) o.at_ = none) ?_ ?_
  ·
   refine CW.quiet (fun wq => Ext w9 wq) kr_ kr_ Chg.drew ?_
   refine QL.v (fun wq hq => Y.fieldAddr fo_apiOp2 rfl) ?_
   refine QL.v (fun wq hq => Y.load Tryd.underlying60 rfl (hB13.ext hq).mem.op2 (sz_apiRef _) rfl) ?_
   refine QL.v (fun wq hq => Y.build0 (build_apiRef _)) ?_
   refine QL.v (fun wq hq => Y.neq_apiRef rfl rfl) ?_
   refine QL.m rfl ?_
   (first | refine QL.casesD (d := 68) rfl ?_ ?_ | refine QL.casesND (d := 68) rfl ?_ ?_ | refine QL.cases (d := 68) rfl ?_ ?_) <;> intro hg68
   ·
    -- t68 = T
    refine QL.g rfl rfl (fun wq hq => Y.fieldAddr fo_apiOp2 rfl) ?_
    refine QL.g rfl rfl (fun wq hq => Y.fieldAddr fo_apiRef0 rfl) ?_
    refine QL.g rfl rfl (fun wq hq => Y.load1 Tryd.underlying4 rfl (hB13.ext hq).mem.op2.ref0 rfl) ?_
    refine QL.g rfl rfl (fun wq hq => Y.not rfl) ?_
    refine QL.v (fun wq hq => Y.pick rfl rfl) ?_
    refine QL.m rfl ?_
    (first | refine QL.casesD (d := 74) rfl ?_ ?_ | refine QL.casesND (d := 74) rfl ?_ ?_ | refine QL.cases (d := 74) rfl ?_ ?_) <;> intro hg74
    ·
     -- t74 = T
     refine QL.g rfl rfl (fun wq hq => Y.move rfl) ?_
     refine QL.g rfl rfl (fun wq hq => Y.nilCheck rfl) ?_
     refine QL.g rfl rfl (fun wq hq => Y.fieldAddr fo_fugueTree1 rfl) ?_
     refine QL.g rfl rfl (fun wq hq => Y.load1 Tryd.underlying105 rfl (hB0.ext hq).mem.fugueTree1 rfl) ?_
     refine QL.g rfl rfl (fun wq hq => Y.fieldAddr fo_apiOp2 rfl) ?_
     refine QL.g rfl rfl (fun wq hq => Y.load Tryd.underlying60 rfl (hB13.ext hq).mem.op2 (sz_apiRef _) rfl) ?_
     refine QL.g rfl rfl (fun wq hq => Y.lookB (hT.ext hq) hG rfl rfl) ?_
     refine QL.g rfl rfl (fun wq hq => Y.eql_fuguenode rfl rfl) ?_
     refine QL.v (fun wq hq => Y.pick rfl rfl) ?_
     refine QL.nil fun wq hq => ⟨⟨_, rfl, ?_⟩, hq, Fr.okp⟩
     exact tst_ok
    ·
     -- t74 = F
     refine QL.o rfl rfl ?_
     refine QL.o rfl rfl ?_
     refine QL.o rfl rfl ?_
     refine QL.o rfl rfl ?_
     refine QL.o rfl rfl ?_
     refine QL.o rfl rfl ?_
     refine QL.o rfl rfl ?_
     refine QL.o rfl rfl ?_
     refine QL.v (fun wq hq => Y.pick rfl rfl) ?_
     refine QL.nil fun wq hq => ⟨⟨_, rfl, ?_⟩, hq, Fr.okp⟩
     exact tst_ok
   ·
    -- t68 = F
    refine QL.o rfl rfl ?_
    refine QL.o rfl rfl ?_
    refine QL.o rfl rfl ?_
    refine QL.o rfl rfl ?_
    refine QL.v (fun wq hq => Y.pick rfl rfl) ?_
    refine QL.m rfl ?_
    refine QL.o rfl rfl ?_
    refine QL.o rfl rfl ?_
    refine QL.o rfl rfl ?_
    refine QL.o rfl rfl ?_
    refine QL.o rfl rfl ?_
    refine QL.o rfl rfl ?_
    refine QL.o rfl rfl ?_
    refine QL.o rfl rfl ?_
    refine QL.v (fun wq hq => Y.pick rfl rfl) ?_
    refine QL.nil fun wq hq => ⟨⟨_, rfl, ?_⟩, hq, Fr.okp⟩
    exact tst_ok
  intro w10 hx10; have hz10 := hx10.size; have hE := hE.thenExt hx10; have hT := hT.ext hx10; have hB0 := hB0.ext hx10; have hl := hl.ext hx10; have hB4 := hB4.ext hx10; have hB13 := hB13.ext hx10
  (first | refine cd_ rfl ?_ ?_ | refine ce_ rfl ?_ ?_ | refine cn_ rfl ?_ ?_ | refine cb_ rfl ?_ ?_) <;> intro ht32
  ·
   -- then
   refine CW.sr fun K33 hK33 => ?_
   refine WL.a rfl ?_
   refine WL.nil (hK33 _ _ ?_); try clear hK33
   refine CW.ret ⟨_, rfl, ?_⟩
   have hwa : wrongAt (els ns) ops x o = 5 := by rw [wrongAt, if_neg (by assumption), if_pos (by assumption)]
   exact ⟨by rw [wrongC, if_neg hnid, if_neg hn4, wrongN_end ho hwn (by rw [hwa]; decide), hwa], hE⟩
  refine CW.skip ?_
  refine hK25 _ _ ?_; try clear hK25
  refine CW.region ?_
  refine WL.v (Y.add rfl rfl o2_) ?_
  refine WL.m rfl ?_
  refine WL.nil ?_
  exact ⟨x + 1, (by show m - (x + 1) < m - x; omega), Fr.ok, (by show x + 1 ≤ m; omega), (by rw [wrongN_at ho hwn, wrongAt, if_neg (by assumption), if_neg (by assumption)]), hE, hB4⟩
 refine CW.exit ?_
 refine hK20 _ _ ?_; try clear hK20
 refine CW.sr fun K34 hK34 => ?_
 refine WL.a rfl ?_
 refine WL.nil (hK34 _ _ ?_); try clear hK34
 refine CW.ret ⟨_, rfl, ?_⟩
 have hxe : x = ops.length := by omega
 exact ⟨by rw [wrongC, if_neg hnid, if_neg hn4, ← hxe, hwn], hE⟩
end Go.Proofs.YtmehkigmnpjcjaaDoor
/- slices.BinarySearchFunc and slices.Insert at children, walked. No condition. -/
namespace Go.Fw
open Go.RowKit
def Row (w : World) (g : Nat) (e : TypeId) (L : List Value) : Prop := ∃ fz : Nat × Nat, w.heap[g]? = some (.cells L.toArray e fz) ∧ ∀ p, p < L.length → ¬ (fz.1 ≤ p ∧ p < fz.2)
section
variable {w w' : World} {g : Nat} {e : TypeId} {L : List Value} {S : Nat → Prop}
theorem Row.lt (h : Row w g e L) : g < w.heap.size := by obtain ⟨_, h, _⟩ := h; exact (Array.getElem?_eq_some_iff.1 h).1
theorem Row.chg (h : Row w g e L) (hc : Chg S w w') (hs : ¬ S g) : Row w' g e L := by obtain ⟨fz, h1, h2⟩ := h; exact ⟨fz, (hc.block g (Array.getElem?_eq_some_iff.1 h1).1 hs).trans h1, h2⟩
theorem Row.ext (h : Row w g e L) (hc : Ext w w') : Row w' g e L := h.chg hc fun f => f
theorem Row.mem (h : Row w g e L) {d : Nat} {news : List Value} (hn : ∀ j v, news[j]? = some v → L[d + j]? = some v) : Mem w ⟨g, d, none⟩ news := fun j v hj => by
 obtain ⟨fz, h1, _⟩ := h
 have e1 : (⟨g, d, none⟩ : Addr).add j = ⟨g, d + j, none⟩ := by unfold Addr.add; split <;> simp_all
 rw [e1, cell_of_row w g (d + j) _ _ _ h1]
 simpa using hn j v hj
theorem Own.row {k n c : Nat} {xs : List Value} (h : Own w e k (.slice (some ⟨g, 0, none⟩) n c) xs) : ∃ rest, Row w g e (xs ++ rest) ∧ xs.length = n * k ∧ n ≤ c ∧ c ≤ maxLen ∧ (xs ++ rest).length = c * k := by
 rcases h with ⟨h, _⟩ | ⟨g', n', cap, rest, fz, h, hh, hl, hnc, hcm, hr, hf⟩
 ·
  cases h
 ·
  injection h with h1 h2 h3
  injection h1 with h1; injection h1 with h1
  subst h1; subst h2; subst h3
  exact ⟨rest, ⟨fz, hh, fun p hp => hf p om_⟩, hl, hnc, hcm, hr⟩
theorem Row.own {k n c : Nat} {xs rest : List Value} (h : Row w g e (xs ++ rest)) (hl : xs.length = n * k) (hnc : n ≤ c) (hcm : c ≤ maxLen) (hr : (xs ++ rest).length = c * k) : Own w e k (.slice (some ⟨g, 0, none⟩) n c) xs := by
 obtain ⟨fz, h1, h2⟩ := h
 exact .inr ⟨g, n, c, rest, fz, rfl, h1, hl, hnc, hcm, hr, fun o ho => h2 o om_⟩
end
section
variable {P : Program} {n : NN} {Φ : Exit → Fr → World → Prop} {fr : Fr} {w : World} {ty : TypeId}
theorem Y.cap_slice {x : Operand} {A : Option Addr} {m c : Nat} {t e : TypeId} (hT : P.underlying t = some (.slice e)) (hx : ev fr x = some (.slice A m c)) :
  Yw P n fr (.call { callee := .builtin .cap, args := #[x], argTypes := #[t] }) ty w (.int .i64 (c : Int)) w := fun a o' ho _ ha => by
 simp [execOp, ho, resolve, invoke, builtin, ha.ev hx, Builtin.cap_, run_underlying hT, goInt]
theorem WL.callX {ops : Array Oper} {rest : List Oper} {d : Nat} {f : FuncId} {args : List Operand} {tys : Array TypeId} {pos : String} {aft : Array Edge} {vs : List Value} {v : Value}
  (he : evs fr args = some vs) (hr : (callFunc f vs.toArray).run P w = .ok (.value v) w) (hd : d < n.1) (h : WL P ops n Φ rest ((d, v) :: fr) w) :
  WL P ops n Φ (⟨some d, .call { callee := .value (.func f), args := args.toArray, argTypes := tys }, ty, pos, aft, none⟩ :: rest) fr w := fun a ha =>
 wpList_plain rfl fun K hK => by
  have hrun : (execOp a.eval ⟨some d, .call { callee := .value (.func f), args := args.toArray, argTypes := tys }, ty, pos, aft, none⟩).run P w = .ok (.value v) w := by
   have := ha.evs he
   simp [execOp, resolve, invoke, Deferred.ofValue, Act.eval, this, hr]
  unfold Oper.wp
  rw [hrun]
  exact hK _ _ (h _ (ha.put hd v))
theorem Y.convR {x : Operand} {k k' : IntKind} {p r : Int} {s d : TypeId} {ds : TypeDesc} (hs : P.underlying s = some ds) (hd : P.underlying d = some (.int k')) (hx : ev fr x = some (.int k p)) (hr : k'.wrap p = r) :
  Yw P n fr (.convert s d x) ty w (.int k' r) w := by have := Y.conv_int (n := n) (ty := ty) (w := w) hs hd hx; rwa [hr] at this
theorem shr_mid {a b : Nat} (h : a + b < 9223372036854775808) : (IntKind.u64.wrap ((a : Int) + (b : Int))).fdiv (2 ^ (min (1 : Int).toNat IntKind.u64.bits)) = (((a + b) / 2 : Nat) : Int) := by
 have e : IntKind.u64.wrap ((a : Int) + (b : Int)) = ((a + b : Nat) : Int) := by simp [IntKind.wrap, IntKind.bits, IntKind.signed]; omega
 rw [e]
 show ((a + b : Nat) : Int).fdiv 2 = _
 rw [Int.fdiv_eq_ediv_of_nonneg _ om_]; omega
theorem WL.gcallV {ops : Array Oper} {rest : List Oper} {d t j dj : Nat} {b : Bool} {f : FuncId} {args : List Operand} {tys : Array TypeId} {pos : String} {aft : Array Edge} {vs cap : List Value} {fn : Func}
  {R : Value → World → Prop} (hj : (ops[j]?).bind (·.dst) = some dj) (hg : fr.get dj = some (.bool b)) (ht : fr.get t = some (.func (.func f) #[] cap.toArray))
  (hf : P.funcs[f]? = some fn) (hb : fn.body.isNone = false) (hn : (fn.name == "runtime.NumGoroutine") = false)
  (he : evs fr args = some vs) (hC : Calls P f (vs ++ cap).toArray w (Ret R)) (hd : d < n.1)
  (h : ∀ v w', R v w' → WL P ops n Φ rest ((d, v) :: fr) w') :
  WL P ops n Φ (⟨some d, .call { callee := .value (.tmp t), args := args.toArray, argTypes := tys }, ty, pos, aft, some (j, b)⟩ :: rest) fr w := fun a ha =>
 wpList_step fun K hK => by
  rw [if_pos (by simp [Region.wanted, yielded_eq ha hj hg])]
  have hrun : (execOp a.eval ⟨some d, .call { callee := .value (.tmp t), args := args.toArray, argTypes := tys }, ty, pos, aft, some (j, b)⟩).run P w = .ok (.enter f (vs ++ cap).toArray) w := by
   have h1 := ha.evs he
   have h2 := ha.get _ _ ht
   simp [execOp, resolve, invoke, Deferred.ofValue, Act.eval, h1, h2, run_callFunc hf hb hn]
  unfold Oper.wp
  rw [hrun]
  refine hC.mono fun e w' he' => ?_
  cases e with
  | returned v => exact hK _ _ (h v w' he' _ (ha.put hd v))
  | panicked ch => exact he'.elim
  | outgrown => exact he'.elim
theorem St.copyRow {d s : Operand} {t t' e : TypeId} {g i m j cd cs : Nat} {A D : Addr} {L news : List Value}
  (hT : P.underlying t = some (.slice e)) (hS : (P.info? e).map (·.size) = some 1) (hd : ev fr d = some (.slice (some D) m cd)) (hD : D = ⟨g, i, none⟩) (hs : ev fr s = some (.slice (some A) j cs))
  (hm : Mem w A news) (hl : news.length = min j m) (hb : Row w g e L) (hlo : i + news.length ≤ L.length) (h1 : ∀ u ∈ news, u.oneCell' = true) :
  St P n fr (.call { callee := .builtin .copy, args := #[d, s], argTypes := #[t, t'] }) ty w (fun v w' => v = .int .i64 ((min j m : Nat) : Int) ∧ Chg (· = g) w w' ∧ Row w' g e (L.take i ++ news ++ L.drop (i + news.length))) := fun a o' ho hty ha => by
 obtain ⟨fz, hg, hf⟩ := hb
 have hst := storeCells_own (P := P) g i e fz news 0 L.toArray w hg (by simpa using hlo) h1 (fun p hp => hf p (by simpa using hp))
 have hld := run_loadCells_list (P := P) w A news hm
 have e0 : (L.toArray.toList.take (i + 0) ++ news ++ L.toArray.toList.drop (i + 0 + news.length)).toArray = (L.take i ++ news ++ L.drop (i + news.length)).toArray := by simp
 rw [e0] at hst
 refine ⟨.int .i64 ((min j m : Nat) : Int), w.setRow g (L.take i ++ news ++ L.drop (i + news.length)).toArray, ?_, rfl, ⟨rfl, rfl, rfl, by simp, fun k hk hn => setRow_other w g k _ hn, Nat.le_refl _⟩, ⟨fz, setRow_heap w g _ _ e fz hg, fun p hp => hf p ?_⟩⟩
 ·
  subst hD
  rw [hl] at hld
  have e1 : (Builtin.copy_ #[t, t'] o'.type #[.slice (some ⟨g, i, none⟩) m cd, .slice (some A) j cs]).run P w = .ok (.int .i64 ((min j m : Nat) : Int)) (w.setRow g (L.take i ++ news ++ L.drop (i + news.length)).toArray) := by
   simp [Builtin.copy_, run_underlying hT, fw_sizeOf hS, Builtin.lenOf, Builtin.firstCells, hld, hst, goInt]
  simp [execOp, ho, resolve, invoke, builtin, ha.ev hd, ha.ev hs, e1]
 ·
  simp only [List.length_append, List.length_take, List.length_drop] at hp; omega
end
theorem ptrL_app (a b : List Nat) : ptrL (a ++ b) = ptrL a ++ ptrL b := by simp [ptrL]
theorem ptrL_take (l : List Nat) (i : Nat) : (ptrL l).take i = ptrL (l.take i) := by have := flat_take pC_length l i; rwa [Nat.mul_one] at this
theorem ptrL_drop (l : List Nat) (i : Nat) : (ptrL l).drop i = ptrL (l.drop i) := by have := flat_drop pC_length l i; rwa [Nat.mul_one] at this
theorem one_ptrL {l : List Nat} : ∀ u ∈ ptrL l, u.oneCell' = true := by
 intro u hu
 obtain ⟨c, hc, hu⟩ := List.mem_flatten.1 hu
 obtain ⟨x, _, rfl⟩ := List.mem_map.1 hc
 simp at hu; subst hu; rfl
end Go.Fw
namespace Go.Proofs.YtmehkigmnpjcjaaDoor
open Go.RowKit Go.Fw Go.Fu Go.Pl
abbrev UP := Tryd.underlying102
theorem ai_ptr : AppInfo Tryd.prog TP 1 8 := by
 have h : (Tryd.prog.info? TP).map (fun i => (i.size, i.bytes, i.zero)) = some (1, 8, some (.pointer none)) := by kernel_rfl
 obtain ⟨i, hi, h⟩ := Option.map_eq_some_iff.1 h
 injection h with h1 h2
 injection h2 with h2 h3
 exact ⟨i, _, hi, h3, h1, rfl, h2, by decide, by decide⟩
theorem bs1_ptr (c : Nat) (w : World) : (Instr.buildSlice 102 1 [(0, Value.pointer (some ⟨c, 0, none⟩))].toArray).run Tryd.prog w = .ok (.slice (some ⟨w.heap.size, 0, none⟩) 1 1) (w.alloc (.cells (pC c).toArray TP)) := by
 obtain ⟨i, z, hi, hz, hs, _, _, h0, _⟩ := ai_ptr
 exact run_bs1 UP hi hz om_ om_ rfl (by rw [hs]; rfl) w
theorem St.appendZ {n : NN} {fr : Fr} {w : World} {ty : TypeId} {s x : Operand} {A : Option Addr} {i c k : Nat} {z0 : Int} {l : List Nat} (hs : ev fr s = some (.slice A i c)) (hx : ev fr x = some (.int .i64 z0)) (hz0 : z0 = (k : Int))
  (hl : l.length = i) (hA : 0 < i → ∃ a, A = some a ∧ Mem w a (ptrL l)) (hk : 0 < k) (hg : c < i + k) (hb : (i + k) * 8 ≤ 140737488355328) :
  St Tryd.prog n fr (.call { callee := .builtin .append, args := #[s, x], argTypes := #[102, 3] }) ty w (fun v w' => ∃ gN cap rest, v = .slice (some ⟨gN, 0, none⟩) (i + k) cap ∧ w.heap.size ≤ gN ∧ i + k ≤ cap ∧ cap ≤ maxLen ∧ Row w' gN TP (ptrL l ++ rest) ∧ (ptrL l ++ rest).length = cap ∧ Ext w w') := fun a o' ho hty ha => by
 subst hz0
 obtain ⟨it, z, hi, hz, hsz, hzc, hby, _, _⟩ := ai_ptr
 have hold : (Builtin.firstCells it.size i (.slice A i c)).run Tryd.prog w.drew = .ok (ptrL l).toArray w.drew := by
  rw [hsz]
  by_cases h0 : i = 0
  ·
   subst h0
   have : l = [] := List.length_eq_zero_iff.1 hl
   subst this
   cases A with
   | none => exact run_firstCells_none w.drew 1 0 0 c
   | some a => exact run_firstCells_some w.drew 1 0 a 0 c [] rfl (fun j v h => by simp at h)
  ·
   obtain ⟨a, rfl, hm⟩ := hA om_
   exact run_firstCells_some w.drew 1 i a i c (ptrL l) (by rw [ptrL_length, hl]; omega) (fun j v h => hm j v h)
 have hfit : Builtin.nextslicecap (i + k) c * it.bytes ≤ 281474976710656 := by rw [hby]; exact growslice_fits hg hb
 have hrun := Lib.run_append_grow_zeros w 102 3 o'.type TP it z .i64 .i64 UP Tryd.underlying3 hi hz A i c (ptrL l) hold k hk om_ hg om_ (by rw [hby]; omega) hfit
 have hcap := grownCap_ge w (i + k) c TP
 have hcm := grownCap_le_maxLen w (i + k) c TP (by unfold maxLen; omega)
 obtain ⟨G, hG⟩ : ∃ G, G = grownCap w (i + k) c TP := ⟨_, rfl⟩
 rw [← hG] at hrun hcap hcm
 have hzl : ∀ m, (Builtin.zeroCells z.cells m).toList.length = m := fun m => by
  simp [Builtin.zeroCells, hzc]
 refine ⟨.slice (some ⟨w.heap.size, 0, none⟩) (i + k) G, w.drew.alloc (.cells ((ptrL l).toArray ++ Builtin.zeroCells z.cells k ++ Builtin.zeroCells z.cells (G - (i + k))) TP), by simp [execOp, ho, resolve, invoke, builtin, ha.ev hs, ha.ev hx, hrun], w.heap.size, G, (Builtin.zeroCells z.cells k).toList ++ (Builtin.zeroCells z.cells (G - (i + k))).toList, rfl, Nat.le_refl _, hcap, hcm, ⟨(0, 0), ?_, fun p _ h => by omega⟩, ?_, (Chg.drew.thenExt (Chg.alloc _))⟩
 ·
  have := heap_alloc_new w.drew (.cells ((ptrL l).toArray ++ Builtin.zeroCells z.cells k ++ Builtin.zeroCells z.cells (G - (i + k))) TP)
  rw [show (ptrL l ++ ((Builtin.zeroCells z.cells k).toList ++ (Builtin.zeroCells z.cells (G - (i + k))).toList)).toArray = (ptrL l).toArray ++ Builtin.zeroCells z.cells k ++ Builtin.zeroCells z.cells (G - (i + k)) by simp]
  exact this
 ·
  rw [List.length_append, List.length_append, hzl, hzl, ptrL_length, hl]; omega
theorem row_grow {P R N D X : List Value} {i : Nat} (hP : P.length = i) (hN : N.length = 1) : ((P ++ R).take i ++ N ++ (P ++ R).drop (i + 1)).take (i + 1) ++ D ++ X = (P ++ N ++ D) ++ X := by
 have e1 : (P ++ R).take i = P := by rw [← hP]; simp
 rw [e1, List.take_append_of_le_length (by simp [hP, hN]), List.take_of_length_le (by simp [hP, hN])]
theorem row_shift {P D R N : List Value} {i d : Nat} (hP : P.length = i) (hD : D.length = d) (hN : N.length = 1) (hR : 1 ≤ R.length) :
  ((P ++ D ++ R).take (i + 1) ++ D ++ (P ++ D ++ R).drop (i + 1 + d)).take i ++ N ++ ((P ++ D ++ R).take (i + 1) ++ D ++ (P ++ D ++ R).drop (i + 1 + d)).drop (i + 1) = (P ++ N ++ D) ++ R.drop 1 := by
 have e1 : (P ++ D ++ R).drop (i + 1 + d) = R.drop 1 := by
  rw [show i + 1 + d = (P ++ D).length + 1 by simp [hP, hD]; omega, List.drop_append]; simp
 have hA : ((P ++ D ++ R).take (i + 1)).length = i + 1 := by simp [hP, hD]; omega
 have e2 : ((P ++ D ++ R).take (i + 1) ++ D ++ (P ++ D ++ R).drop (i + 1 + d)).take i = P := by
  rw [List.append_assoc, List.take_append_of_le_length om_, List.take_take, Nat.min_eq_left om_, List.append_assoc, List.take_append_of_le_length om_, ← hP, List.take_length]
 have e3 : ((P ++ D ++ R).take (i + 1) ++ D ++ (P ++ D ++ R).drop (i + 1 + d)).drop (i + 1) = D ++ R.drop 1 := by
  rw [List.append_assoc, List.drop_append_of_le_length om_, List.drop_of_length_le om_, e1]; simp
 rw [e2, e3]; simp
theorem run_ov {L : List Value} (w : World) (gv g j x lb cb : Nat) (hv : Blk w gv TP (pC x)) (hR : Row w g TP L) (hL : L.length ≠ 0) (hne : gv ≠ g) :
  (callFunc 59 #[.slice (some ⟨gv, 0, none⟩) 1 1, .slice (some ⟨g, j, none⟩) lb cb]).run Tryd.prog w = .ok (.value (.bool false)) w := by
 obtain ⟨fz, hg, hf⟩ := hR
 have hv' : w.heap[gv]? = some (.cells (pC x).toArray TP (0, 0)) := hv
 rw [run_callFunc_extern Tryd.func59 kr_ kr_ kr_ (e := Extern.SlicesOverlaps.overlaps #[102, 102] #[4]) kr_,
  Lib.run_overlaps_apart w 102 4 TP UP 1 (fun w => fw_sizeOf sz0_fuguenode) ⟨gv, 0, none⟩ ⟨g, j, none⟩ 1 1 lb cb hne TP TP 1 L.length (by simp [World.shape?, hv']) (by simp [World.shape?, hg]) hL (by simp [World.frozen?, hv']) (by simp [World.frozen?, hv'])]
 rfl
theorem fbs_any (u : Value) (l : List Nat) (tg : Nat) (r : RefD) (f : Nat → RefD) (w : World) (hu : Own w TP 1 u (ptrL l)) (hn : l.length ≤ 400001) (hb : ∀ c ∈ l, ∃ x lv rv, Blk w c TN (nodeC x lv rv) ∧ x.name = f c) (ht : ∃ x lv rv, Blk w tg TN (nodeC x lv rv) ∧ x.name = r) (hi : ∀ c ∈ l, InI64 ((f c).n - r.n)) (hs : ∀ a b : Nat, a < b → ∀ x y, l[a]? = some x → l[b]? = some y → ordI (f y) r < 0 → ordI (f x) r < 0) : Calls Tryd.prog 37 #[u, .pointer (some ⟨tg, 0, none⟩), .func (.func 38) #[] #[]] w (Ret fun v w' => (∃ (k : Nat) (b : Bool), v = .tuple #[.int .i64 (k : Int), .bool b] ∧ k ≤ l.length ∧ (∀ (t : Nat) (x : Nat), t < k → l[t]? = some x → ordI (f x) r < 0) ∧ ∀ (t : Nat) (x : Nat), k ≤ t → l[t]? = some x → 0 ≤ ordI (f x) r) ∧ Ext w w') := by
 obtain ⟨A, m, c, rfl⟩ := hu.lens
 obtain ⟨hm0, _, hml, hmc, hcm⟩ := hu.mem A m c rfl
 rw [ptrL_length, Nat.mul_one] at hml
 unfold maxLen at hcm
 obtain ⟨xt, lt, rt, hBt, hxt⟩ := ht
 refine calls_of_CW 49 [6, 7] [(0, .slice A m c), (1, .pointer (some ⟨tg, 0, none⟩)), (2, .func (.func 38) #[] #[])] Tryd.func37 rfl rfl rfl (by simp) args3 ?_
 have hE : Ext w w := Chg.refl
 refine CW.sr fun K1 hK1 => ?_
 refine WL.a rfl ?_
 refine WL.a rfl ?_
 refine WL.nil (hK1 _ _ ?_); try clear hK1
 refine CW.sr fun K2 hK2 => ?_
 refine WL.m rfl ?_
 refine WL.v (Y.len_slice Tryd.underlying102 rfl) ?_
 refine WL.a rfl ?_
 refine WL.nil (hK2 _ _ ?_); try clear hK2
 refine CW.sr fun K3 hK3 => ?_
 refine WL.m rfl ?_
 refine WL.a rfl ?_
 refine WL.a rfl ?_
 refine WL.nil (hK3 _ _ ?_); try clear hK3
 refine CW.seq fun K4 hK4 => ?_
 refine CW.block ?_
 refine CW.loop (X := Nat × Nat) (fun x => [(0, .slice A m c), (1, .pointer (some ⟨tg, 0, none⟩)), (2, .func (.func 38) #[] #[]), (8, .int .i64 (m : Int)), (9, .int .i64 (x.1 : Int)), (10, .int .i64 (x.2 : Int))]) (fun x w0 => x.1 ≤ x.2 ∧ x.2 ≤ m ∧ (∀ (t y : Nat), t < x.1 → l[t]? = some y → ordI (f y) r < 0) ∧ (∀ (t y : Nat), x.2 ≤ t → l[t]? = some y → 0 ≤ ordI (f y) r) ∧ Ext w w0) (fun x => x.2 - x.1) (0, m) Fr.ok ⟨Nat.zero_le _, Nat.le_refl _, (fun t y h => absurd h (Nat.not_lt_zero t)), (fun t y h1 h2 => by have := (List.getElem?_eq_some_iff.1 h2).1; have h1 : m ≤ t := h1; omega), hE⟩ ?_
 intro x w1 hl1
 obtain ⟨lo, hi2⟩ := x
 dsimp only at hl1 ⊢
 obtain ⟨h1, h2, h3, h4, hE⟩ := hl1
 have hzl := hE.size
 refine CW.seq fun K5 hK5 => ?_
 refine CW.sr fun K6 hK6 => ?_
 refine WL.m rfl ?_
 refine WL.m rfl ?_
 refine WL.v (Y.lss rfl rfl) ?_
 refine WL.nil (hK6 _ _ ?_); try clear hK6
 (first | refine cd_ rfl ?_ ?_ | refine ce_ rfl ?_ ?_ | refine cn_ rfl ?_ ?_ | refine cb_ rfl ?_ ?_) <;> intro ht7
 ·
  -- then
  refine CW.skip ?_
  refine hK5 _ _ ?_; try clear hK5
  refine CW.block ?_
  refine CW.sr fun K8 hK8 => ?_
  refine WL.m rfl ?_
  refine WL.m rfl ?_
  refine WL.v (Y.add rfl rfl o2_) ?_
  refine WL.v (Y.conv_int Tryd.underlying3 Tryd.underlying139 rfl) ?_
  refine WL.v (Y.shr rfl rfl om_ (shr_mid om_)) ?_
  refine WL.v (Y.convR Tryd.underlying139 Tryd.underlying3 rfl (wrap_i64_in o2_)) ?_
  refine WL.a rfl ?_
  refine WL.nil (hK8 _ _ ?_); try clear hK8
  refine CW.seq fun K9 hK9 => ?_
  obtain ⟨y, hy⟩ : ∃ y, l[(lo + hi2) / 2]? = some y := ⟨_, List.getElem?_eq_getElem om_⟩
  obtain ⟨a, rfl, hma⟩ := (hu.sl pC_length de_).get hy
  obtain ⟨xq, lq, rq, hBq, hxq⟩ := hb y (List.mem_of_getElem? hy)
  refine CW.region ?_
  refine WL.m rfl ?_
  refine WL.m rfl ?_
  refine WL.m rfl ?_
  refine WL.v (Y.indexAddrN Tryd.underlying102 rfl rfl sz0_fuguenode om_) ?_
  refine WL.v (Y.load1 Tryd.underlying101 rfl ((hma.ext hE).cell0) rfl) ?_
  refine WL.m rfl ?_
  refine WL.callV rfl Tryd.func38 rfl rfl rfl (forder_any y tg xq xt _ _ _ _ _ (hBq.ext hE) (hBt.ext hE) (by rw [hxq, hxt]; exact hi y (List.mem_of_getElem? hy))) (by simp) ?_; rintro v30 w2 hR2
  obtain ⟨rfl, hx2⟩ := hR2
  rw [hxq, hxt]
  have hE := hE.thenExt hx2
  refine WL.v (Y.lss rfl rfl) ?_
  refine WL.nil (hK9 _ _ ?_); try clear hK9
  (first | refine cd_ rfl ?_ ?_ | refine ce_ rfl ?_ ?_ | refine cn_ rfl ?_ ?_ | refine cb_ rfl ?_ ?_) <;> intro ht10
  ·
   -- then
   refine CW.region ?_
   refine WL.m rfl ?_
   refine WL.v (Y.add rfl rfl o2_) ?_
   refine WL.a rfl ?_
   refine WL.nil ?_
   exact ⟨((lo + hi2) / 2 + 1, hi2), (by show hi2 - ((lo + hi2) / 2 + 1) < hi2 - lo; omega), Fr.ok, (by show (lo + hi2) / 2 + 1 ≤ hi2; omega), h2, (fun t z ht hz => by
    by_cases e : t = (lo + hi2) / 2
    ·
     subst e; rw [hy] at hz; cases hz; assumption
    ·
     exact hs t _ (by have ht : t < (lo + hi2) / 2 + 1 := ht; omega) z y hz hy (by assumption)), h4, hE⟩
  refine CW.region ?_
  refine WL.m rfl ?_
  refine WL.a rfl ?_
  refine WL.nil ?_
  exact ⟨(lo, (lo + hi2) / 2), (by show (lo + hi2) / 2 - lo < hi2 - lo; omega), Fr.ok, (by show lo ≤ (lo + hi2) / 2; omega), (by show (lo + hi2) / 2 ≤ m; omega), h3, (fun t z ht hz => Int.not_lt.1 fun hn => by
   by_cases e : t = (lo + hi2) / 2
   ·
    subst e; rw [hy] at hz; cases hz; contradiction
   ·
    exact absurd (hs _ t (by have ht : (lo + hi2) / 2 ≤ t := ht; omega) y z hy hz hn) (by assumption)), hE⟩
 refine CW.exit ?_
 refine hK4 _ _ ?_; try clear hK4
 refine CW.sr fun K11 hK11 => ?_
 refine WL.m rfl ?_
 refine WL.m rfl ?_
 refine WL.m rfl ?_
 refine WL.v (Y.lss rfl rfl) ?_
 refine WL.m rfl ?_
 (first | refine WL.casesD (d := 39) rfl ?_ ?_ | refine WL.casesND (d := 39) rfl ?_ ?_ | refine WL.cases (d := 39) rfl ?_ ?_) <;> intro hg39
 ·
  -- t39 = T
  refine WL.g rfl rfl (Y.move rfl) ?_
  refine WL.g rfl rfl (Y.move rfl) ?_
  refine WL.g rfl rfl (Y.move rfl) ?_
  obtain ⟨y, hy⟩ : ∃ y, l[lo]? = some y := ⟨_, List.getElem?_eq_getElem om_⟩
  obtain ⟨a, rfl, hma⟩ := (hu.sl pC_length de_).get hy
  obtain ⟨xq, lq, rq, hBq, hxq⟩ := hb y (List.mem_of_getElem? hy)
  refine WL.g rfl rfl (Y.indexAddrN Tryd.underlying102 rfl rfl sz0_fuguenode om_) ?_
  refine WL.g rfl rfl (Y.load1 Tryd.underlying101 rfl ((hma.ext hE).cell0) rfl) ?_
  refine WL.g rfl rfl (Y.move rfl) ?_
  refine WL.gcallV rfl rfl rfl Tryd.func38 rfl rfl rfl (forder_any y tg xq xt _ _ _ _ _ (hBq.ext hE) (hBt.ext hE) (by rw [hxq, hxt]; exact hi y (List.mem_of_getElem? hy))) de_ ?_; rintro v46 w3 hR3
  obtain ⟨rfl, hx3⟩ := hR3
  have hE := hE.thenExt hx3
  refine WL.g rfl rfl (Y.eql rfl rfl) ?_
  refine WL.v (Y.pick rfl rfl) ?_
  refine WL.a rfl ?_
  refine WL.a rfl ?_
  refine WL.nil (hK11 _ _ ?_); try clear hK11
  refine CW.ret ⟨_, rfl, ?_⟩
  exact ⟨⟨lo, _, rfl, by omega, h3, (fun t x ht hx => h4 t x om_ hx)⟩, hE⟩
 ·
  -- t39 = F
  refine WL.o rfl rfl ?_
  refine WL.o rfl rfl ?_
  refine WL.o rfl rfl ?_
  refine WL.o rfl rfl ?_
  refine WL.o rfl rfl ?_
  refine WL.o rfl rfl ?_
  refine WL.o rfl rfl ?_
  refine WL.o rfl rfl ?_
  refine WL.v (Y.pick rfl rfl) ?_
  refine WL.a rfl ?_
  refine WL.a rfl ?_
  refine WL.nil (hK11 _ _ ?_); try clear hK11
  refine CW.ret ⟨_, rfl, ?_⟩
  exact ⟨⟨lo, _, rfl, by omega, h3, (fun t x ht hx => h4 t x om_ hx)⟩, hE⟩
set_option maxRecDepth 100000 in
set_option maxHeartbeats 1000000 in
theorem fins_any (u : Value) (l : List Nat) (i x gv : Nat) (w : World) (hu : Own w TP 1 u (ptrL l)) (hi : i ≤ l.length) (hv : Blk w gv TP (pC x)) (hne : u.ownBlock ≠ some gv) (hn : l.length ≤ 400001) : Calls Tryd.prog 39 #[u, .int .i64 (i : Int), .slice (some ⟨gv, 0, none⟩) 1 1] w (Ret fun v w' => Own w' TP 1 v (ptrL (l.take i ++ x :: l.drop i)) ∧ Chg (fun k => u.ownBlock = some k) w w' ∧ (v.ownBlock = u.ownBlock ∨ ∀ k, v.ownBlock = some k → w.heap.size ≤ k)) := by
 obtain ⟨A, n, c, rfl⟩ := hu.lens
 obtain ⟨hm0, hnone, hml, hmc, hcm⟩ := hu.mem A n c rfl
 rw [ptrL_length, Nat.mul_one] at hml
 unfold maxLen at hcm
 have hvm := hv.mem
 refine calls_of_CW 95 [6] [(0, .slice A n c), (1, .int .i64 (i : Int)), (2, .slice (some ⟨gv, 0, none⟩) 1 1)] Tryd.func39 rfl rfl rfl (by simp) args3 ?_
 have hE : Ext w w := Chg.refl
 refine CW.sr fun K1 hK1 => ?_
 refine WL.a rfl ?_
 refine WL.nil (hK1 _ _ ?_); try clear hK1
 refine CW.sr fun K2 hK2 => ?_
 refine WL.m rfl ?_
 refine WL.m rfl ?_
 refine WL.v (Y.slice_lo Tryd.underlying102 rfl rfl sz0_fuguenode rfl om_) ?_
 refine WL.nil (hK2 _ _ ?_); try clear hK2
 refine CW.sr fun K3 hK3 => ?_
 refine WL.m rfl ?_
 refine WL.v (Y.len_slice Tryd.underlying102 rfl) ?_
 refine WL.a rfl ?_
 refine WL.nil (hK3 _ _ ?_); try clear hK3
 refine CW.seq fun K4 hK4 => ?_
 refine CW.sr fun K5 hK5 => ?_
 refine WL.m rfl ?_
 refine WL.v (Y.eql rfl rfl) ?_
 refine WL.nil (hK5 _ _ ?_); try clear hK5
 (first | refine cd_ rfl ?_ ?_ | refine ce_ rfl ?_ ?_ | refine cn_ rfl ?_ ?_ | refine cb_ rfl ?_ ?_) <;> intro ht6
 ·
  -- then
  refine CW.sr fun K7 hK7 => ?_
  refine WL.m rfl ?_
  refine WL.a rfl ?_
  refine WL.nil (hK7 _ _ ?_); try clear hK7
  refine CW.ret ⟨_, rfl, ?_⟩
  exfalso; omega
 refine CW.skip ?_
 refine hK4 _ _ ?_; try clear hK4
 refine CW.sr fun K8 hK8 => ?_
 refine WL.m rfl ?_
 refine WL.v (Y.len_slice Tryd.underlying102 rfl) ?_
 refine WL.a rfl ?_
 refine WL.nil (hK8 _ _ ?_); try clear hK8
 refine CW.seq fun K9 hK9 => ?_
 refine CW.sr fun K10 hK10 => ?_
 refine WL.m rfl ?_
 refine WL.m rfl ?_
 refine WL.v (Y.eql rfl rfl) ?_
 refine WL.nil (hK10 _ _ ?_); try clear hK10
 (first | refine cd_ rfl ?_ ?_ | refine ce_ rfl ?_ ?_ | refine cn_ rfl ?_ ?_ | refine cb_ rfl ?_ ?_) <;> intro ht11
 ·
  -- then
  refine CW.sr fun K12 hK12 => ?_
  refine WL.m rfl ?_
  refine WL.m rfl ?_
  refine WL.st (St.append (m := 1) (news := ptrL [x]) UP UP ai_ptr rfl rfl hu (Fw.Src.one hv rfl) one_ptrL (by rw [ptrL_length]; omega)) de_ fun v25 w1 hR1 => ?_
  obtain ⟨hO, hc1, hf1⟩ := hR1
  refine WL.a rfl ?_
  refine WL.nil (hK12 _ _ ?_); try clear hK12
  refine CW.ret ⟨_, rfl, ?_⟩
  exact ⟨by rw [List.take_of_length_le om_, List.drop_eq_nil_of_le om_]; rw [← ptrL_app] at hO; exact hO, hc1, hf1⟩
 refine CW.skip ?_
 refine hK9 _ _ ?_; try clear hK9
 refine CW.seq fun K13 hK13 => ?_
 refine CW.seq fun K14 hK14 => ?_
 have hin : i < n := by omega
 obtain ⟨g, rfl, hgl⟩ := hu.head (fun h => by have := congrArg List.length h; rw [ptrL_length, List.length_nil] at this; omega)
 obtain ⟨rest, hRw, _, _, _, hrl⟩ := hu.row
 rw [List.length_append, ptrL_length] at hrl
 have hmem : Mem w ⟨g, 0, none⟩ (ptrL l) := hRw.mem (d := 0) (fun j v h => by rw [Nat.zero_add, List.getElem?_append_left (List.getElem?_eq_some_iff.1 h).1]; exact h)
 have hgv : g ≠ gv := fun e => hne (by rw [e]; rfl)
 refine CW.region ?_
 refine WL.m rfl ?_
 refine WL.m rfl ?_
 refine WL.v (Y.add rfl rfl o2_) ?_
 refine WL.m rfl ?_
 refine WL.v (Y.cap_slice Tryd.underlying102 rfl) ?_
 refine WL.v (Y.gtr rfl rfl) ?_
 refine WL.nil (hK14 _ _ ?_); try clear hK14
 (first | refine cd_ rfl ?_ ?_ | refine ce_ rfl ?_ ?_ | refine cn_ rfl ?_ ?_ | refine cb_ rfl ?_ ?_) <;> intro ht15
 ·
  -- then
  refine CW.sr fun K16 hK16 => ?_
  refine WL.m rfl ?_
  refine WL.m rfl ?_
  refine WL.v (Y.slice_hi Tryd.underlying102 rfl rfl sz0_fuguenode rfl om_) ?_
  refine WL.m rfl ?_
  refine WL.m rfl ?_
  refine WL.v (Y.add rfl rfl o2_) ?_
  refine WL.m rfl ?_
  refine WL.v (Y.sub rfl rfl o2_) ?_
  refine WL.st (St.appendZ (l := l.take i) (k := n + 1 - i) rfl rfl om_ (by rw [List.length_take]; omega) (fun h0 => ⟨_, rfl, by rw [← ptrL_take]; exact hmem.take i⟩) om_ om_ om_) de_ fun v40 w2 hR2 => ?_
  obtain ⟨gN, cN, rN, rfl, hgN, hnc, hcN, hRN, hrN, hx2⟩ := hR2
  unfold maxLen at hcN
  have hz2 := hx2.size
  have hE := hE.thenExt hx2
  have hvm := hvm.ext hx2
  have hmem := hmem.ext hx2
  rw [List.length_append, ptrL_length, List.length_take] at hrN
  refine WL.a rfl ?_
  refine WL.nil (hK16 _ _ ?_); try clear hK16
  refine CW.sr fun K17 hK17 => ?_
  refine WL.m rfl ?_
  refine WL.m rfl ?_
  refine WL.v (Y.slice_lo Tryd.underlying102 rfl rfl sz0_fuguenode rfl om_) ?_
  rw [if_neg (show ¬ cN = i by omega)]
  dsimp only [Option.map]
  refine WL.m rfl ?_
  refine WL.st (St.copyRow (g := gN) (i := i) (news := ptrL [x]) UP sz0_fuguenode rfl (by rw [add_zero', Nat.mul_one]) rfl hvm (by rw [ptrL_length]; show 1 = _; omega) hRN (by rw [List.length_append, ptrL_length, ptrL_length, List.length_take]; show i + 1 ≤ _; omega) one_ptrL) de_ fun v45 w3 hR3 => ?_
  obtain ⟨rfl, hc3, hR3⟩ := hR3
  have hz3 := hc3.size
  have hE := hE.step hc3 (fun k h => by have h : k = gN := h; omega)
  have hmem := hmem.chg hc3 (fun h => by have h : g = gN := h; omega)
  refine WL.nil (hK17 _ _ ?_); try clear hK17
  refine CW.seq fun K18 hK18 => ?_
  refine CW.head 8 kr_ kr_ fun w4 hx4 => ?_
  skip; have hz4 := hx4.size; have hE := hE.thenExt hx4
  refine HL.val (Y.move rfl) de_ ?_
  refine HL.val (Y.move rfl) de_ ?_
  refine HL.val (Y.move rfl) de_ ?_
  refine HL.val (Y.add rfl rfl o2_) de_ ?_
  refine HL.val (Y.slice_lo (i := i + 1) Tryd.underlying102 rfl rfl sz0_fuguenode rfl om_) de_ ?_
  rw [if_neg (show ¬ cN = i + 1 by omega)]
  dsimp only [Option.map]
  refine HL.val (Y.move rfl) de_ ?_
  refine HL.val (Y.move rfl) de_ ?_
  refine HL.val (Y.slice_lo Tryd.underlying102 rfl rfl sz0_fuguenode rfl om_) de_ ?_
  rw [if_neg (show ¬ c = i by omega)]
  dsimp only [Option.map]
  refine HL.nil ?_
  refine WL.st (St.copyRow (g := gN) (i := i + 1) (news := ptrL (l.drop i)) UP sz0_fuguenode rfl (by rw [add_zero', Nat.mul_one]) rfl (by rw [Nat.mul_one, ← ptrL_drop]; exact (hmem.ext hx4).drop i) (by rw [ptrL_length, List.length_drop]; omega) (hR3.ext hx4) (by simp only [List.length_append, List.length_take, List.length_drop, ptrL_length, List.length_singleton]; omega) one_ptrL) de_ fun v54 w5 hR5 => ?_
  obtain ⟨rfl, hc5, hR5⟩ := hR5
  have hE := hE.step hc5 (fun k h => by have h : k = gN := h; omega)
  refine WL.nil (hK18 _ _ ?_); try clear hK18
  refine CW.sr fun K19 hK19 => ?_
  refine WL.m rfl ?_
  refine WL.a rfl ?_
  refine WL.nil (hK19 _ _ ?_); try clear hK19
  refine CW.ret ⟨_, rfl, ?_⟩
  change Row _ gN TP (List.take (i + 1) (List.take i (ptrL (l.take i) ++ rN) ++ ptrL [x] ++ List.drop (i + 1) (ptrL (l.take i) ++ rN)) ++ ptrL (l.drop i) ++ _) at hR5
  rw [row_grow (by rw [ptrL_length, List.length_take]; omega) rfl, ← ptrL_app, ← ptrL_app] at hR5
  rw [show l.take i ++ [x] ++ l.drop i = l.take i ++ x :: l.drop i by simp] at hR5
  exact ⟨hR5.own (by rw [ptrL_length]; simp only [List.length_append, List.length_take, List.length_cons, List.length_drop]; omega) om_ (by unfold maxLen; omega) (by simp only [List.length_append, List.length_take, List.length_cons, List.length_nil, List.length_drop, ptrL_length]; omega), hE.chg, .inr fun k hk => by simp [Value.ownBlock] at hk; omega⟩
 refine CW.skip ?_
 refine hK13 _ _ ?_; try clear hK13
 refine CW.sr fun K20 hK20 => ?_
 refine WL.m rfl ?_
 refine WL.m rfl ?_
 refine WL.m rfl ?_
 refine WL.v (Y.add rfl rfl o2_) ?_
 refine WL.v (Y.slice_hi Tryd.underlying102 rfl rfl sz0_fuguenode rfl om_) ?_
 refine WL.a rfl ?_
 refine WL.nil (hK20 _ _ ?_); try clear hK20
 refine CW.seq fun K21 hK21 => ?_
 refine CW.sr fun K22 hK22 => ?_
 refine WL.m rfl ?_
 refine WL.m rfl ?_
 refine WL.m rfl ?_
 refine WL.m rfl ?_
 refine WL.v (Y.add rfl rfl o2_) ?_
 refine WL.v (Y.slice_lo (i := i + 1) Tryd.underlying102 rfl rfl sz0_fuguenode rfl om_) ?_
 rw [if_neg (show ¬ c = i + 1 by omega)]
 dsimp only [Option.map]
 refine WL.callX rfl (by rw [add_zero']; exact run_ov w gv g _ x _ _ hv hRw (by rw [List.length_append, ptrL_length]; omega) (fun e => hgv e.symm)) de_ ?_; have hx6 : Ext w w := Chg.refl; have hz6 := hx6.size; have hE := hE.thenExt hx6
 refine WL.v (Y.not rfl) ?_
 refine WL.nil (hK22 _ _ ?_); try clear hK22
 (first | refine cd_ rfl ?_ ?_ | refine ce_ rfl ?_ ?_ | refine cn_ rfl ?_ ?_ | refine cb_ rfl ?_ ?_) <;> intro ht23
 ·
  -- then
  refine CW.seq fun K24 hK24 => ?_
  refine CW.head 8 kr_ kr_ fun w7 hx7 => ?_
  skip; have hz7 := hx7.size; have hE := hE.thenExt hx7
  refine HL.val (Y.move rfl) de_ ?_
  refine HL.val (Y.move rfl) de_ ?_
  refine HL.val (Y.move rfl) de_ ?_
  refine HL.val (Y.add rfl rfl o2_) de_ ?_
  refine HL.val (Y.slice_lo (i := i + 1) Tryd.underlying102 rfl rfl sz0_fuguenode rfl om_) de_ ?_
  rw [if_neg (show ¬ c = i + 1 by omega)]
  dsimp only [Option.map]
  refine HL.val (Y.move rfl) de_ ?_
  refine HL.val (Y.move rfl) de_ ?_
  refine HL.val (Y.slice_lo Tryd.underlying102 rfl rfl sz0_fuguenode rfl om_) de_ ?_
  rw [if_neg (show ¬ c = i by omega)]
  dsimp only [Option.map]
  refine HL.nil ?_
  refine WL.st (St.copyRow (g := g) (i := i + 1) (news := ptrL (l.drop i)) UP sz0_fuguenode rfl (by rw [add_zero', Nat.mul_one]) rfl (by rw [Nat.mul_one, ← ptrL_drop]; exact (hmem.ext hx7).drop i) (by rw [ptrL_length, List.length_drop]; omega) (hRw.ext hx7) (by simp only [List.length_append, List.length_drop, ptrL_length]; omega) one_ptrL) de_ fun v77 w8 hR8 => ?_
  obtain ⟨rfl, hc8, hR8⟩ := hR8
  have hC : Chg (fun k => k = g) w w8 := (hx7.chg).trans hc8 (fun k _ h => h)
  have hvm := hvm.chg hC (fun h => hgv h.symm)
  refine WL.nil (hK24 _ _ ?_); try clear hK24
  refine CW.sr fun K25 hK25 => ?_
  refine WL.m rfl ?_
  refine WL.m rfl ?_
  refine WL.v (Y.slice_lo Tryd.underlying102 rfl rfl sz0_fuguenode rfl om_) ?_
  rw [if_neg (show ¬ c = i by omega)]
  dsimp only [Option.map]
  refine WL.m rfl ?_
  refine WL.st (St.copyRow (g := g) (i := i) (news := ptrL [x]) UP sz0_fuguenode rfl (by rw [add_zero', Nat.mul_one]) rfl hvm (by rw [ptrL_length]; show 1 = _; omega) hR8 (by simp only [List.length_append, List.length_take, List.length_drop, ptrL_length, List.length_singleton]; omega) one_ptrL) de_ fun v82 w9 hR9 => ?_
  obtain ⟨rfl, hc9, hR9⟩ := hR9
  have hC : Chg (fun k => k = g) w w9 := hC.trans hc9 (fun k _ h => h)
  refine WL.nil (hK25 _ _ ?_); try clear hK25
  refine CW.sr fun K26 hK26 => ?_
  refine WL.m rfl ?_
  refine WL.a rfl ?_
  refine WL.nil (hK26 _ _ ?_); try clear hK26
  refine CW.ret ⟨_, rfl, ?_⟩
  have hsp : ptrL l = ptrL (l.take i) ++ ptrL (l.drop i) := by rw [← ptrL_app, List.take_append_drop]
  have hdl : (ptrL (l.drop i)).length = n - i := by rw [ptrL_length, List.length_drop]; omega
  rw [hsp, hdl] at hR9
  change Row _ g TP (List.take i (List.take (i + 1) (ptrL (l.take i) ++ ptrL (l.drop i) ++ rest) ++ ptrL (l.drop i) ++ List.drop (i + 1 + (n - i)) (ptrL (l.take i) ++ ptrL (l.drop i) ++ rest)) ++ ptrL [x] ++ List.drop (i + 1) (List.take (i + 1) (ptrL (l.take i) ++ ptrL (l.drop i) ++ rest) ++ ptrL (l.drop i) ++ List.drop (i + 1 + (n - i)) (ptrL (l.take i) ++ ptrL (l.drop i) ++ rest))) at hR9
  rw [row_shift (by rw [ptrL_length, List.length_take]; omega) hdl rfl om_, ← ptrL_app, ← ptrL_app] at hR9
  rw [show l.take i ++ [x] ++ l.drop i = l.take i ++ x :: l.drop i by simp] at hR9
  exact ⟨hR9.own (by rw [ptrL_length]; simp only [List.length_append, List.length_take, List.length_cons, List.length_drop]; omega) om_ (by unfold maxLen; omega) (by simp only [List.length_append, List.length_take, List.length_cons, List.length_nil, List.length_drop, ptrL_length]; omega), hC.mono fun k _ h => by rw [h]; rfl, .inl rfl⟩
 refine CW.skip ?_
 refine hK21 _ _ ?_; try clear hK21
 refine CW.seq fun K27 hK27 => ?_
 exact absurd (show false = true by assumption) de_
end Go.Proofs.YtmehkigmnpjcjaaDoor
