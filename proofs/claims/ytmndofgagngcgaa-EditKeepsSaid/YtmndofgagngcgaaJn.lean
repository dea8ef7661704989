/- recensionlaw10's alive, walked. No condition. -/
import Derived.Test.YtmndofgagngcgaaJl
import Derived.Test.YtmndofgagngcgaaFe
set_option linter.unusedSimpArgs false
set_option linter.unusedVariables false
namespace Go.Fw
open Go.RowKit
theorem WL.gst {P : Program} {n : NN} {Φ : Exit → Fr → World → Prop} {fr : Fr} {w : World} {ty : TypeId} {R : Value → World → Prop} {ops : Array Oper} {rest : List Oper} {d j dj : Nat} {b : Bool} {o : Op} {pos : String} {aft : Array Edge}
    (hj : (ops[j]?).bind (·.dst) = some dj) (hg : fr.get dj = some (.bool b))
    (hs : St P n fr o ty w R) (hd : d < n.1) (h : ∀ v w', R v w' → WL P ops n Φ rest ((d, v) :: fr) w') : WL P ops n Φ (⟨some d, o, ty, pos, aft, some (j, b)⟩ :: rest) fr w := fun a ha =>
  wpList_step fun K hK => by
    obtain ⟨v, w', hr, hR⟩ := hs a ⟨some d, o, ty, pos, aft, some (j, b)⟩ rfl rfl ha
    rw [if_pos (by simp [Region.wanted, yielded_eq ha hj hg])]
    unfold Oper.wp
    rw [hr]
    exact hK _ _ (h v w' hR _ (ha.put hd v))
end Go.Fw
namespace Go.Fu
open Go.Fw Go.Pl
theorem alive_ops : opsR (addT Tr.new D1 aliveOps).e [97, 120] = [⟨2, false, ⟨false, D1, 2⟩, 0⟩, ⟨1, true, ⟨false, D1, 2⟩, 120⟩] := by decide
theorem alive_blame : blameE (addT Tr.new D1 aliveOps).e = [⟨D1, 2⟩] := by decide
end Go.Fu
namespace Go.Proofs.Ytmndofgagngcgaa
open Go.RowKit Go.Fw Go.Fu Go.Pl
theorem build_run2 (d : Dig) (w : World) : (Instr.build TRu [(0, digV d), (1, Value.int .i64 2)].toArray).run Try.prog w = .ok (.agg (runC ⟨d, 2⟩).toArray) w := run_build w _ _ _ (by
  show Try.prog.built _ [(0, digV d), (1, Value.int .i64 2)] = _
  rw [built_run]
  have e0 : runC ⟨Dig.zero, 0⟩ = [] ++ digC Dig.zero ++ [Value.int .i64 ((0 : Nat) : Int)] := rfl
  rw [e0, fill_step [] (digC Dig.zero) [Value.int .i64 ((0 : Nat) : Int)] (digC d) (by rw [digC_length]; rfl) rfl (by rw [digC_length, digC_length]) rfl]
  have e1 : [] ++ digC d ++ [Value.int .i64 ((0 : Nat) : Int)] = digC d ++ [Value.int .i64 ((0 : Nat) : Int)] ++ [] := by simp
  rw [e1, fill_step (digC d) [Value.int .i64 ((0 : Nat) : Int)] [] [Value.int .i64 2] rfl rfl rfl (by rw [digC_length]), Instr.fill]
  simp [runC])
section
variable {n : NN} {fr : Fr} {ty t' : TypeId} {x y : Operand} {w : World}
theorem Y.eql_apiRun {a b : RuD} (hx : ev fr x = some (.agg (runC a).toArray)) (hy : ev fr y = some (.agg (runC b).toArray)) : Yw Try.prog n fr (.binOp .eql TRu x y t') ty w (.bool (decide (a = b))) w :=
  Y.bin hx hy (run_eqGuard_agg w _ _ _ _ _ _ guard_run) (by rw [run_eql_struct, eqIn_run 9997]; rfl)
end

set_option maxRecDepth 100000 in
set_option maxHeartbeats 2000000 in
theorem ealive_any (w : World) : Calls Try.prog 16 #[] w (Ret fun v w' => v = .bool true ∧ Ext w w') := by
  refine calls_of_CW 68 [0] [] Try.func16 rfl rfl rfl (by simp) args0 ?_
  have hE : Ext w w := Chg.refl
  refine CW.seq fun K1 hK1 => ?_
  refine CW.region ?_
  refine WL.val (Y.assign rfl) (by decide) ?_
  refine WL.nil ?_
  refine hK1 _ _ ?_; try clear hK1 K1
  refine CW.seq fun K2 hK2 => ?_
  refine CW.region ?_
  refine WL.call Try.func26 rfl rfl rfl (fnew_any _) (by simp) ?_; rintro v6 w1 hR1
  obtain ⟨g, rb, ra, gn, rfl, hn1, hn2, hn3, hn4, hT, hx1⟩ := hR1
  have hz1 := hx1.size
  have hE := hE.thenExt hx1
  refine WL.val (Y.assign rfl) (by decide) ?_
  refine WL.nil ?_
  refine hK2 _ _ ?_; try clear hK2 K2
  refine CW.seq fun K3 hK3 => ?_
  refine CW.region ?_
  refine WL.val (Y.build rfl (build_D1 _)) (by decide) ?_
  refine as_apiDigest rfl (by simp) (by decide) fun g2 w2 hx2 hg2 hB2 => ?_
  have hlt2 := hB2.lt; have hz2 := hx2.size
  have hM2 := hB2.mem; have hz2 := hx2.size; have hE := hE.thenExt hx2
  refine WL.nil ?_
  refine hK3 _ _ ?_; try clear hK3 K3
  refine CW.seq fun K4 hK4 => ?_
  refine CW.seq_to (X := List Nn) (fun _ => [(1, .pointer (some ⟨g, 0, none⟩)), (2, .pointer (some ⟨g2, 0, none⟩)), (19, .bool false)]) (fun ns1 w0 => Ext w w0 ∧ FtAt w0 g rb ra (addT ⟨[], Fw.els (newN gn)⟩ D1 aliveOps).ad ns1 ∧ Fw.els ns1 = (addT Tr.new D1 aliveOps).e ∧ Blk w0 g2 50 (digC D1)) ?_ ?_
  · refine CW.region ?_
    refine WL.val (Y.move rfl) (by decide) ?_
    refine WL.val (Y.eql_fugueTree rfl rfl) (by decide) ?_
    refine WL.val (Y.move rfl) (by decide) ?_
    first | refine WL.casesD (d := 10) rfl (fun hg10 => ?_) (fun hg10 => ?_) | refine WL.casesND (d := 10) rfl (fun hg10 => ?_) (fun hg10 => ?_) | refine WL.cases (d := 10) rfl (fun hg10 => ?_) (fun hg10 => ?_)
    · -- t10 = T
      refine WL.goff rfl rfl (by decide) ?_
      refine WL.goff rfl rfl (by decide) ?_
      refine WL.goff rfl rfl (by decide) ?_
      refine WL.goff rfl rfl (by decide) ?_
      refine WL.goff rfl rfl (by decide) ?_
      refine WL.goff rfl rfl (by decide) ?_
      refine WL.goff rfl rfl (by decide) ?_
      refine WL.goff rfl rfl (by decide) ?_
      refine WL.val (Y.pick rfl rfl) (by decide) ?_
      refine WL.nil ?_
      first | exact ⟨ns1, (by repeat (first | exact Fr.le.nil | refine Fr.le.cons rfl ?_)), hE, hT4, he5, hB2⟩ | (exfalso; simp_all; done)
    · -- t10 = F
      refine WL.gval rfl rfl (Y.move rfl) (by decide) ?_
      refine WL.gval rfl rfl (Y.load Try.underlying50 rfl hB2.mem (sz_apiDigest _) rfl) (by decide) ?_
      refine WL.gval rfl rfl (Y.build rfl (build_opA _)) (by decide) ?_
      refine WL.gval rfl rfl (Y.build rfl (build_refO _)) (by decide) ?_
      refine WL.gval rfl rfl (Y.build rfl (build_opB _)) (by decide) ?_
      refine WL.gst rfl rfl (St.buildSlice rfl (bs2_op _ _)) (by decide) fun v16 w3 hR3 => ?_
      obtain ⟨go, rfl, hgo, hBo, hx3⟩ := hR3
      have hz3 := hx3.size
      have hE := hE.thenExt hx3
      have hB2 := hB2.ext hx3
      have hT3 := (hT.ext hx2).ext hx3
      have hOo : Own w3 93 37 (.slice (some ⟨go, 0, none⟩) 2 2) (((aliveOps).map opC).flatten) := by
        have h9 := Blk.own (k := 37) (m := 2) hBo (by rw [List.length_append, opC_length, opC_length]) (by unfold maxLen; omega)
        simpa [aliveOps] using h9
      have hSo := hOo.sl opC_length (by decide)
      refine WL.gcall rfl rfl Try.func21 rfl rfl rfl (fadd_any g rb ra [] (newN gn) D1 _ aliveOps [] _ hT3 treeOk_new hSo (fun _ k hk => by
          simp [Value.ownBlock] at hk
          have := hBo.lt
          exact ⟨by omega, fun h => by have := hT.lt h; omega⟩)) (by decide) ?_; rintro v17 w4 hR4
      obtain ⟨rfl, ns1, hT4, he4, hc4, _⟩ := hR4
      have hw0 : wrongC ⟨[], Fw.els (newN gn)⟩ D1 aliveOps = 0 := alive_e
      rw [hw0]
      have hz4 := hc4.size
      have hE := hE.step hc4 (fun q hq => by have := hq.ofNew; omega)
      have hB2 := hB2.chg hc4 (hT3.dig_ne hB2)
      have he5 : Fw.els ns1 = (addT Tr.new D1 aliveOps).e := he4
      refine WL.gval rfl rfl (Y.neq rfl rfl) (by decide) ?_
      refine WL.val (Y.pick rfl rfl) (by decide) ?_
      refine WL.nil ?_
      first | exact ⟨ns1, (by repeat (first | exact Fr.le.nil | refine Fr.le.cons rfl ?_)), hE, hT4, he5, hB2⟩ | (exfalso; simp_all; done)
  rintro ns1 w5 ⟨hE, hT4, he5, hB2⟩
  have hz5 := hE.size
  have hok := treeOk_new.add alive_e
  have hG4 : Fu.Good (Fw.els ns1) := by rw [he5]; exact hok.good
  have hn5 : ns1.length ≤ 400001 := by
    have h1 : (Fw.els ns1).length = ns1.length := List.length_map _
    rw [← h1, he5]; exact hok.few
  have htx : textE (Fw.els ns1) = [97, 98] := by rw [he5]; exact alive_t
  have hop : opsR (Fw.els ns1) [97, 120] = [⟨2, false, ⟨false, D1, 2⟩, 0⟩, ⟨1, true, ⟨false, D1, 2⟩, 120⟩] := by rw [he5]; exact alive_ops
  have hbl : blameE (Fw.els ns1) = [⟨D1, 2⟩] := by rw [he5]; exact alive_blame
  have her : mkErr (textE (Fw.els ns1)) [97, 120] = 0 := by rw [htx]; rfl
  first | refine CW.condD rfl (fun ht5 => ?_) (fun ht5 => ?_) | refine CW.condND rfl (fun ht5 => ?_) (fun ht5 => ?_) | refine CW.condN rfl (fun ht5 => ?_) (fun ht5 => ?_) | refine CW.cond rfl (fun ht5 => ?_) (fun ht5 => ?_)
  · -- then
    refine CW.seq fun K6 hK6 => ?_
    refine CW.region ?_
    refine WL.val (Y.assign rfl) (by decide) ?_
    refine WL.nil ?_
    refine hK6 _ _ ?_; try clear hK6 K6
    refine CW.ret ⟨_, rfl, ?_⟩
    exact absurd (by assumption) (by decide)
  refine CW.skip ?_
  refine hK4 _ _ ?_; try clear hK4 K4
  refine CW.seq fun K7 hK7 => ?_
  refine CW.region ?_
  refine WL.val (Y.move rfl) (by decide) ?_
  refine WL.call Try.func11 rfl rfl rfl (fops_any g rb ra _ ns1 [97, 120] _ hT4 hG4 hn5 (by decide)) (by simp) ?_; rintro v22 w6 hR6
  obtain ⟨u, rfl, hOu, hfu, hx6⟩ := hR6
  rw [her]
  rw [hop] at hOu
  have hz6 := hx6.size
  have hE := hE.thenExt hx6
  have hB2 := hB2.ext hx6
  obtain ⟨oA, om, oc, rfl⟩ := hOu.lens
  have hom := (hOu.len opC_length (by decide)).1
  obtain rfl : om = 2 := by rw [← hom]; rfl
  obtain ⟨oa, hoa, hm0⟩ := (hOu.sl opC_length (by decide)).get (i := 0) (x := ⟨2, false, ⟨false, D1, 2⟩, 0⟩) rfl
  subst hoa
  obtain ⟨oa2, hoa2, hm1⟩ := (hOu.sl opC_length (by decide)).get (i := 1) (x := ⟨1, true, ⟨false, D1, 2⟩, 120⟩) rfl
  cases hoa2
  refine WL.val (Y.move rfl) (by decide) ?_
  refine WL.val (Y.extract rfl rfl) (by decide) ?_
  refine WL.val (Y.extract rfl rfl) (by decide) ?_
  refine WL.val (Y.assign rfl) (by decide) ?_
  refine WL.val (Y.assign rfl) (by decide) ?_
  refine WL.nil ?_
  refine hK7 _ _ ?_; try clear hK7 K7
  refine CW.seq fun K8 hK8 => ?_
  refine CW.region ?_
  refine WL.val (Y.move rfl) (by decide) ?_
  refine WL.call Try.func18 rfl rfl rfl (fblame_any g rb ra _ ns1 _ (hT4.ext hx6) hG4 hn5) (by simp) ?_; rintro v26 w7 hR7
  obtain ⟨hOb, hfb, hx7⟩ := hR7
  rw [hbl] at hOb
  have hz7 := hx7.size
  have hE := hE.thenExt hx7
  have hB2 := hB2.ext hx7
  have hm0 := hm0.ext hx7
  have hm1 := hm1.ext hx7
  obtain ⟨bA, bm, bc_, rfl⟩ := hOb.lens
  have hbm := (run_cell hOb).1
  obtain rfl : bm = 1 := by rw [← hbm]; rfl
  obtain ⟨ba, hba, hmb⟩ := (hOb.sl runC_length (by decide)).get (i := 0) (x := ⟨D1, 2⟩) rfl
  subst hba
  refine WL.val (Y.assign rfl) (by decide) ?_
  refine WL.nil ?_
  refine hK8 _ _ ?_; try clear hK8 K8
  refine CW.seq fun K9 hK9 => ?_
  refine CW.quiet (fun wq => Ext w7 wq) (by kernel_rfl) (by kernel_rfl) Chg.drew ?_
  refine QL.val (fun wq hq => Y.move rfl) (by decide) ?_
  refine QL.val (fun wq hq => Y.eql rfl rfl) (by decide) ?_
  refine QL.val (fun wq hq => Y.move rfl) (by decide) ?_
  first | refine QL.casesD (d := 29) rfl (fun hg29 => ?_) (fun hg29 => ?_) | refine QL.casesND (d := 29) rfl (fun hg29 => ?_) (fun hg29 => ?_) | refine QL.cases (d := 29) rfl (fun hg29 => ?_) (fun hg29 => ?_)
  · -- t29 = T
    refine QL.gval rfl rfl (fun wq hq => Y.move rfl) (by decide) ?_
    refine QL.gval rfl rfl (fun wq hq => Y.len_slice Try.underlying27 rfl) (by decide) ?_
    refine QL.gval rfl rfl (fun wq hq => Y.eql rfl rfl) (by decide) ?_
    refine QL.val (fun wq hq => Y.pick rfl rfl) (by decide) ?_
    refine QL.val (fun wq hq => Y.move rfl) (by decide) ?_
    first | refine QL.casesD (d := 34) rfl (fun hg34 => ?_) (fun hg34 => ?_) | refine QL.casesND (d := 34) rfl (fun hg34 => ?_) (fun hg34 => ?_) | refine QL.cases (d := 34) rfl (fun hg34 => ?_) (fun hg34 => ?_)
    · -- t34 = T
      refine QL.gval rfl rfl (fun wq hq => Y.move rfl) (by decide) ?_
      refine QL.gval rfl rfl (fun wq hq => Y.indexAddrN (i := 0) Try.underlying27 rfl rfl sz0_apiOp (by omega)) (by decide) ?_
      refine QL.gval rfl rfl (fun wq hq => Y.fieldAddr fo_apiOp0 rfl) (by decide) ?_
      refine QL.gval rfl rfl (fun wq hq => Y.load1 Try.underlying3 rfl ((hm0.ext hq).op0) rfl) (by decide) ?_
      refine QL.gval rfl rfl (fun wq hq => Y.eql rfl rfl) (by decide) ?_
      refine QL.val (fun wq hq => Y.pick rfl rfl) (by decide) ?_
      refine QL.val (fun wq hq => Y.move rfl) (by decide) ?_
      first | refine QL.casesD (d := 41) rfl (fun hg41 => ?_) (fun hg41 => ?_) | refine QL.casesND (d := 41) rfl (fun hg41 => ?_) (fun hg41 => ?_) | refine QL.cases (d := 41) rfl (fun hg41 => ?_) (fun hg41 => ?_)
      · -- t41 = T
        refine QL.gval rfl rfl (fun wq hq => Y.move rfl) (by decide) ?_
        refine QL.gval rfl rfl (fun wq hq => Y.indexAddrN (i := 1) Try.underlying27 rfl rfl sz0_apiOp (by omega)) (by decide) ?_
        refine QL.gval rfl rfl (fun wq hq => Y.fieldAddr fo_apiOp1 rfl) (by decide) ?_
        refine QL.gval rfl rfl (fun wq hq => Y.load1 Try.underlying4 rfl ((hm1.ext hq).op1) rfl) (by decide) ?_
        refine QL.val (fun wq hq => Y.pick rfl rfl) (by decide) ?_
        refine QL.val (fun wq hq => Y.move rfl) (by decide) ?_
        first | refine QL.casesD (d := 47) rfl (fun hg47 => ?_) (fun hg47 => ?_) | refine QL.casesND (d := 47) rfl (fun hg47 => ?_) (fun hg47 => ?_) | refine QL.cases (d := 47) rfl (fun hg47 => ?_) (fun hg47 => ?_)
        · -- t47 = T
          refine QL.gval rfl rfl (fun wq hq => Y.move rfl) (by decide) ?_
          refine QL.gval rfl rfl (fun wq hq => Y.indexAddrN (i := 1) Try.underlying27 rfl rfl sz0_apiOp (by omega)) (by decide) ?_
          refine QL.gval rfl rfl (fun wq hq => Y.fieldAddr fo_apiOp2 rfl) (by decide) ?_
          refine QL.gval rfl rfl (fun wq hq => Y.fieldAddr fo_apiRef2 rfl) (by decide) ?_
          refine QL.gval rfl rfl (fun wq hq => Y.load1 Try.underlying3 rfl ((hm1.ext hq).op2.ref2) rfl) (by decide) ?_
          refine QL.gval rfl rfl (fun wq hq => Y.eql rfl rfl) (by decide) ?_
          refine QL.val (fun wq hq => Y.pick rfl rfl) (by decide) ?_
          refine QL.val (fun wq hq => Y.move rfl) (by decide) ?_
          first | refine QL.casesD (d := 55) rfl (fun hg55 => ?_) (fun hg55 => ?_) | refine QL.casesND (d := 55) rfl (fun hg55 => ?_) (fun hg55 => ?_) | refine QL.cases (d := 55) rfl (fun hg55 => ?_) (fun hg55 => ?_)
          · -- t55 = T
            refine QL.gval rfl rfl (fun wq hq => Y.move rfl) (by decide) ?_
            refine QL.gval rfl rfl (fun wq hq => Y.len_slice Try.underlying38 rfl) (by decide) ?_
            refine QL.gval rfl rfl (fun wq hq => Y.eql rfl rfl) (by decide) ?_
            refine QL.val (fun wq hq => Y.pick rfl rfl) (by decide) ?_
            refine QL.val (fun wq hq => Y.move rfl) (by decide) ?_
            first | refine QL.casesD (d := 60) rfl (fun hg60 => ?_) (fun hg60 => ?_) | refine QL.casesND (d := 60) rfl (fun hg60 => ?_) (fun hg60 => ?_) | refine QL.cases (d := 60) rfl (fun hg60 => ?_) (fun hg60 => ?_)
            · -- t60 = T
              refine QL.gval rfl rfl (fun wq hq => Y.move rfl) (by decide) ?_
              refine QL.gval rfl rfl (fun wq hq => Y.indexAddrN (i := 0) Try.underlying38 rfl rfl sz0_apiRun (by omega)) (by decide) ?_
              refine QL.gval rfl rfl (fun wq hq => Y.load Try.underlying65 rfl (hmb.ext hq) (sz_apiRun _) rfl) (by decide) ?_
              refine QL.gval rfl rfl (fun wq hq => Y.load Try.underlying50 rfl (hB2.ext hq).mem (sz_apiDigest _) rfl) (by decide) ?_
              refine QL.gval rfl rfl (fun wq hq => Y.build rfl (build_run2 _ _)) (by decide) ?_
              refine QL.gval rfl rfl (fun wq hq => Y.eql_apiRun rfl rfl) (by decide) ?_
              refine QL.val (fun wq hq => Y.pick rfl rfl) (by decide) ?_
              refine QL.val (fun wq hq => Y.assign rfl) (by decide) ?_
              refine QL.nil fun w8 hx8 => ?_
              have hz8 := hx8.size
              have hE := hE.thenExt hx8
              have hB2 := hB2.ext hx8
              refine hK9 _ _ ?_; try clear hK9 K9
              refine CW.ret ⟨_, rfl, ?_⟩
              exact ⟨by simp, hE⟩
            · -- t60 = F
              refine QL.goff rfl rfl (by decide) ?_
              refine QL.goff rfl rfl (by decide) ?_
              refine QL.goff rfl rfl (by decide) ?_
              refine QL.goff rfl rfl (by decide) ?_
              refine QL.goff rfl rfl (by decide) ?_
              refine QL.goff rfl rfl (by decide) ?_
              refine QL.val (fun wq hq => Y.pick rfl rfl) (by decide) ?_
              refine QL.val (fun wq hq => Y.assign rfl) (by decide) ?_
              refine QL.nil fun w9 hx9 => ?_
              have hz9 := hx9.size
              have hE := hE.thenExt hx9
              have hB2 := hB2.ext hx9
              refine hK9 _ _ ?_; try clear hK9 K9
              refine CW.ret ⟨_, rfl, ?_⟩
              first | exact absurd rfl (by assumption) | exact absurd (by decide) (by assumption) | (simp_all; done)
          · -- t55 = F
            refine QL.goff rfl rfl (by decide) ?_
            refine QL.goff rfl rfl (by decide) ?_
            refine QL.goff rfl rfl (by decide) ?_
            refine QL.val (fun wq hq => Y.pick rfl rfl) (by decide) ?_
            refine QL.val (fun wq hq => Y.move rfl) (by decide) ?_
            refine QL.goff rfl rfl (by decide) ?_
            refine QL.goff rfl rfl (by decide) ?_
            refine QL.goff rfl rfl (by decide) ?_
            refine QL.goff rfl rfl (by decide) ?_
            refine QL.goff rfl rfl (by decide) ?_
            refine QL.goff rfl rfl (by decide) ?_
            refine QL.val (fun wq hq => Y.pick rfl rfl) (by decide) ?_
            refine QL.val (fun wq hq => Y.assign rfl) (by decide) ?_
            refine QL.nil fun w10 hx10 => ?_
            have hz10 := hx10.size
            have hE := hE.thenExt hx10
            have hB2 := hB2.ext hx10
            refine hK9 _ _ ?_; try clear hK9 K9
            refine CW.ret ⟨_, rfl, ?_⟩
            first | exact absurd rfl (by assumption) | exact absurd (by decide) (by assumption) | (simp_all; done)
        · -- t47 = F
          refine QL.goff rfl rfl (by decide) ?_
          refine QL.goff rfl rfl (by decide) ?_
          refine QL.goff rfl rfl (by decide) ?_
          refine QL.goff rfl rfl (by decide) ?_
          refine QL.goff rfl rfl (by decide) ?_
          refine QL.goff rfl rfl (by decide) ?_
          refine QL.val (fun wq hq => Y.pick rfl rfl) (by decide) ?_
          refine QL.val (fun wq hq => Y.move rfl) (by decide) ?_
          refine QL.goff rfl rfl (by decide) ?_
          refine QL.goff rfl rfl (by decide) ?_
          refine QL.goff rfl rfl (by decide) ?_
          refine QL.val (fun wq hq => Y.pick rfl rfl) (by decide) ?_
          refine QL.val (fun wq hq => Y.move rfl) (by decide) ?_
          refine QL.goff rfl rfl (by decide) ?_
          refine QL.goff rfl rfl (by decide) ?_
          refine QL.goff rfl rfl (by decide) ?_
          refine QL.goff rfl rfl (by decide) ?_
          refine QL.goff rfl rfl (by decide) ?_
          refine QL.goff rfl rfl (by decide) ?_
          refine QL.val (fun wq hq => Y.pick rfl rfl) (by decide) ?_
          refine QL.val (fun wq hq => Y.assign rfl) (by decide) ?_
          refine QL.nil fun w11 hx11 => ?_
          have hz11 := hx11.size
          have hE := hE.thenExt hx11
          have hB2 := hB2.ext hx11
          refine hK9 _ _ ?_; try clear hK9 K9
          refine CW.ret ⟨_, rfl, ?_⟩
          first | exact absurd rfl (by assumption) | exact absurd (by decide) (by assumption) | (simp_all; done)
      · -- t41 = F
        refine QL.goff rfl rfl (by decide) ?_
        refine QL.goff rfl rfl (by decide) ?_
        refine QL.goff rfl rfl (by decide) ?_
        refine QL.goff rfl rfl (by decide) ?_
        refine QL.val (fun wq hq => Y.pick rfl rfl) (by decide) ?_
        refine QL.val (fun wq hq => Y.move rfl) (by decide) ?_
        refine QL.goff rfl rfl (by decide) ?_
        refine QL.goff rfl rfl (by decide) ?_
        refine QL.goff rfl rfl (by decide) ?_
        refine QL.goff rfl rfl (by decide) ?_
        refine QL.goff rfl rfl (by decide) ?_
        refine QL.goff rfl rfl (by decide) ?_
        refine QL.val (fun wq hq => Y.pick rfl rfl) (by decide) ?_
        refine QL.val (fun wq hq => Y.move rfl) (by decide) ?_
        refine QL.goff rfl rfl (by decide) ?_
        refine QL.goff rfl rfl (by decide) ?_
        refine QL.goff rfl rfl (by decide) ?_
        refine QL.val (fun wq hq => Y.pick rfl rfl) (by decide) ?_
        refine QL.val (fun wq hq => Y.move rfl) (by decide) ?_
        refine QL.goff rfl rfl (by decide) ?_
        refine QL.goff rfl rfl (by decide) ?_
        refine QL.goff rfl rfl (by decide) ?_
        refine QL.goff rfl rfl (by decide) ?_
        refine QL.goff rfl rfl (by decide) ?_
        refine QL.goff rfl rfl (by decide) ?_
        refine QL.val (fun wq hq => Y.pick rfl rfl) (by decide) ?_
        refine QL.val (fun wq hq => Y.assign rfl) (by decide) ?_
        refine QL.nil fun w12 hx12 => ?_
        have hz12 := hx12.size
        have hE := hE.thenExt hx12
        have hB2 := hB2.ext hx12
        refine hK9 _ _ ?_; try clear hK9 K9
        refine CW.ret ⟨_, rfl, ?_⟩
        first | exact absurd rfl (by assumption) | exact absurd (by decide) (by assumption) | (simp_all; done)
    · -- t34 = F
      refine QL.goff rfl rfl (by decide) ?_
      refine QL.goff rfl rfl (by decide) ?_
      refine QL.goff rfl rfl (by decide) ?_
      refine QL.goff rfl rfl (by decide) ?_
      refine QL.goff rfl rfl (by decide) ?_
      refine QL.val (fun wq hq => Y.pick rfl rfl) (by decide) ?_
      refine QL.val (fun wq hq => Y.move rfl) (by decide) ?_
      refine QL.goff rfl rfl (by decide) ?_
      refine QL.goff rfl rfl (by decide) ?_
      refine QL.goff rfl rfl (by decide) ?_
      refine QL.goff rfl rfl (by decide) ?_
      refine QL.val (fun wq hq => Y.pick rfl rfl) (by decide) ?_
      refine QL.val (fun wq hq => Y.move rfl) (by decide) ?_
      refine QL.goff rfl rfl (by decide) ?_
      refine QL.goff rfl rfl (by decide) ?_
      refine QL.goff rfl rfl (by decide) ?_
      refine QL.goff rfl rfl (by decide) ?_
      refine QL.goff rfl rfl (by decide) ?_
      refine QL.goff rfl rfl (by decide) ?_
      refine QL.val (fun wq hq => Y.pick rfl rfl) (by decide) ?_
      refine QL.val (fun wq hq => Y.move rfl) (by decide) ?_
      refine QL.goff rfl rfl (by decide) ?_
      refine QL.goff rfl rfl (by decide) ?_
      refine QL.goff rfl rfl (by decide) ?_
      refine QL.val (fun wq hq => Y.pick rfl rfl) (by decide) ?_
      refine QL.val (fun wq hq => Y.move rfl) (by decide) ?_
      refine QL.goff rfl rfl (by decide) ?_
      refine QL.goff rfl rfl (by decide) ?_
      refine QL.goff rfl rfl (by decide) ?_
      refine QL.goff rfl rfl (by decide) ?_
      refine QL.goff rfl rfl (by decide) ?_
      refine QL.goff rfl rfl (by decide) ?_
      refine QL.val (fun wq hq => Y.pick rfl rfl) (by decide) ?_
      refine QL.val (fun wq hq => Y.assign rfl) (by decide) ?_
      refine QL.nil fun w13 hx13 => ?_
      have hz13 := hx13.size
      have hE := hE.thenExt hx13
      have hB2 := hB2.ext hx13
      refine hK9 _ _ ?_; try clear hK9 K9
      refine CW.ret ⟨_, rfl, ?_⟩
      first | exact absurd rfl (by assumption) | exact absurd (by decide) (by assumption) | (simp_all; done)
  · -- t29 = F
    refine QL.goff rfl rfl (by decide) ?_
    refine QL.goff rfl rfl (by decide) ?_
    refine QL.goff rfl rfl (by decide) ?_
    refine QL.val (fun wq hq => Y.pick rfl rfl) (by decide) ?_
    refine QL.val (fun wq hq => Y.move rfl) (by decide) ?_
    refine QL.goff rfl rfl (by decide) ?_
    refine QL.goff rfl rfl (by decide) ?_
    refine QL.goff rfl rfl (by decide) ?_
    refine QL.goff rfl rfl (by decide) ?_
    refine QL.goff rfl rfl (by decide) ?_
    refine QL.val (fun wq hq => Y.pick rfl rfl) (by decide) ?_
    refine QL.val (fun wq hq => Y.move rfl) (by decide) ?_
    refine QL.goff rfl rfl (by decide) ?_
    refine QL.goff rfl rfl (by decide) ?_
    refine QL.goff rfl rfl (by decide) ?_
    refine QL.goff rfl rfl (by decide) ?_
    refine QL.val (fun wq hq => Y.pick rfl rfl) (by decide) ?_
    refine QL.val (fun wq hq => Y.move rfl) (by decide) ?_
    refine QL.goff rfl rfl (by decide) ?_
    refine QL.goff rfl rfl (by decide) ?_
    refine QL.goff rfl rfl (by decide) ?_
    refine QL.goff rfl rfl (by decide) ?_
    refine QL.goff rfl rfl (by decide) ?_
    refine QL.goff rfl rfl (by decide) ?_
    refine QL.val (fun wq hq => Y.pick rfl rfl) (by decide) ?_
    refine QL.val (fun wq hq => Y.move rfl) (by decide) ?_
    refine QL.goff rfl rfl (by decide) ?_
    refine QL.goff rfl rfl (by decide) ?_
    refine QL.goff rfl rfl (by decide) ?_
    refine QL.val (fun wq hq => Y.pick rfl rfl) (by decide) ?_
    refine QL.val (fun wq hq => Y.move rfl) (by decide) ?_
    refine QL.goff rfl rfl (by decide) ?_
    refine QL.goff rfl rfl (by decide) ?_
    refine QL.goff rfl rfl (by decide) ?_
    refine QL.goff rfl rfl (by decide) ?_
    refine QL.goff rfl rfl (by decide) ?_
    refine QL.goff rfl rfl (by decide) ?_
    refine QL.val (fun wq hq => Y.pick rfl rfl) (by decide) ?_
    refine QL.val (fun wq hq => Y.assign rfl) (by decide) ?_
    refine QL.nil fun w14 hx14 => ?_
    have hz14 := hx14.size
    have hE := hE.thenExt hx14
    have hB2 := hB2.ext hx14
    refine hK9 _ _ ?_; try clear hK9 K9
    refine CW.ret ⟨_, rfl, ?_⟩
    first | exact absurd rfl (by assumption) | exact absurd (by decide) (by assumption) | (simp_all; done)
end Go.Proofs.Ytmndofgagngcgaa
