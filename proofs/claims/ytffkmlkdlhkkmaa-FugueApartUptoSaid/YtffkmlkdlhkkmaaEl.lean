/- The program's Copy, walked. No condition. -/
import Derived.Test.YtffkmlkdlhkkmaaEk
set_option linter.unusedSimpArgs false
set_option linter.unusedVariables false
namespace Go.Proofs.Ytffkmlkdlhkkmaa
open Go.RowKit Go.Fw Go.Fu Go.Pl

theorem fnew0_any (w : World) : Calls Try.prog 30 #[] w (Ret fun v w' => ∃ g rb ra gn, v = .pointer (some ⟨g, 0, none⟩) ∧ w.heap.size ≤ g ∧ w.heap.size ≤ rb ∧ w.heap.size ≤ ra ∧ rb < ra ∧ Blk w' g TF (treeC gn rb ra 0) ∧ MapAt w' rb BE.me ([] : List BE) 0 ∧ MapAt w' ra AE.me ([] : List AE) 0 ∧ Ext w w') := by
  refine calls_of_CW 7 [0] [] Try.func30 rfl rfl rfl (by simp) args0 ?_
  have hE : Ext w w := Chg.refl
  refine CW.seq fun K1 hK1 => ?_
  refine CW.region ?_   -- region 0
  refine WL.val (Y.assign rfl) (by decide) ?_   -- t0 := assign c(['Go.Value.pointer', 'none'])
  refine WL.nil ?_
  refine hK1 _ _ ?_; try clear hK1 K1
  refine CW.seq fun K2 hK2 => ?_
  refine CW.region ?_   -- region 1
  refine WL.val (Y.build rfl (build_rootN _)) (by decide) ?_   -- t1 := build 96 [(2,c(true))]
  refine WL.box rfl rfl (by decide) fun g2 w1 hx1 hg2 hB2 => ?_   -- t2 := box 96 t1
  have hlt2 := hB2.lt; have hz1 := hx1.size
  have hM2 := hB2.mem; have hz1 := hx1.size; have hE := hE.thenExt hx1
  refine WL.st (St.makeMap) (by decide) fun v3 w2 hR2 => ?_   -- t3 := makeMap 88 none
  obtain ⟨rb, rfl, hrb, hMb, hx2⟩ := hR2
  have hz2 := hx2.size
  have hE := hE.thenExt hx2
  have hB2 := hB2.ext hx2
  have hlb := (hMb BE BE.me).lt
  refine WL.st (St.makeMap) (by decide) fun v4 w3 hR3 => ?_   -- t4 := makeMap 89 none
  obtain ⟨ra, rfl, hra, hMa, hx3⟩ := hR3
  have hz3 := hx3.size
  have hE := hE.thenExt hx3
  have hB2 := hB2.ext hx3
  refine WL.val (Y.build rfl (build_treeF _ _ _ _)) (by decide) ?_   -- t5 := build 91 [(0,t2), (1,t3), (2,t4)]
  refine WL.box rfl rfl (by decide) fun g6 w4 hx4 hg6 hB6 => ?_   -- t6 := box 91 t5
  have hlt6 := hB6.lt; have hz4 := hx4.size
  have hM6 := hB6.mem; have hz4 := hx4.size; have hE := hE.thenExt hx4; have hB2 := hB2.ext hx4
  refine WL.val (Y.assign rfl) (by decide) ?_   -- t0 := assign t6
  refine WL.nil ?_
  refine hK2 _ _ ?_; try clear hK2 K2
  refine CW.ret ⟨_, rfl, ?_⟩
  exact ⟨_, rb, ra, _, rfl, by omega, by omega, by omega, by omega, hB6, ((hMb BE BE.me).ext hx3).ext hx4, (hMa AE AE.me).ext hx4, hE⟩
set_option maxRecDepth 100000 in
set_option maxHeartbeats 4000000 in
theorem fcopy_any (g rb ra : Nat) (ad : List Dig) (ns : List Nn) (w : World) (hT : FtAt w g rb ra ad ns) (hG : Fu.Good (Fw.els ns)) (hn : ns.length ≤ 400001) : Calls Try.prog 29 #[.pointer (some ⟨g, 0, none⟩)] w (Ret fun v w' => ∃ g' rb' ra' ns', v = .pointer (some ⟨g', 0, none⟩) ∧ FtAt w' g' rb' ra' ad ns' ∧ Fw.els ns' = Fw.els ns ∧ (∀ q, Fp g' rb' ra' ns' q → w.heap.size ≤ q) ∧ Ext w w') := by
  obtain ⟨cl, l, hMp, hold, hborn, hkeys, hmem⟩ := hT.added
  obtain ⟨ifn, hifn, hzfn, hsfn⟩ := info_fnC
  have hraw := hMp.lt
  have hel : (Fw.els ns).length = ns.length := List.length_map _
  have hT0 := hT
  refine calls_of_CW 45 [2] [(0, .pointer (some ⟨g, 0, none⟩))] Try.func29 rfl rfl rfl (by simp) args1 ?_
  have hE : Ext w w := Chg.refl
  refine CW.seq fun K1 hK1 => ?_
  refine CW.region ?_   -- region 0
  refine WL.box rfl rfl (by decide) fun g1 w1 hx1 hg1 hB1 => ?_   -- t1 := box 27 t0
  have hlt1 := hB1.lt; have hz1 := hx1.size
  have hM1 := hB1.mem; have hz1 := hx1.size; have hE := hE.thenExt hx1
  refine WL.val (Y.assign rfl) (by decide) ?_   -- t2 := assign c(['Go.Value.pointer', 'none'])
  refine WL.nil ?_
  refine hK1 _ _ ?_; try clear hK1 K1
  refine CW.seq fun K2 hK2 => ?_
  refine CW.seq fun K3 hK3 => ?_
  refine CW.region ?_   -- region 1
  refine WL.val (Y.load1 Try.underlying27 rfl hB1.mem.cell0 rfl) (by decide) ?_   -- t7 := load 27 t1
  refine WL.call Try.func35 rfl rfl rfl (fmade_any g rb ra ad ns _ (hT.ext hE)) (by simp) ?_; rintro v w2 ⟨rfl, hx2⟩; have hz2 := hx2.size; have hE := hE.thenExt hx2; have hB1 := hB1.ext hx2   -- t8 := call F35(t7) : 27
  refine WL.val (Y.not rfl) (by decide) ?_   -- t9 := unOp not 4 t8
  refine WL.nil ?_
  refine hK3 _ _ ?_; try clear hK3 K3
  first | refine CW.condD rfl (fun ht4 => ?_) (fun ht4 => ?_) | refine CW.condND rfl (fun ht4 => ?_) (fun ht4 => ?_) | refine CW.condN rfl (fun ht4 => ?_) (fun ht4 => ?_) | refine CW.cond rfl (fun ht4 => ?_) (fun ht4 => ?_)
  · -- then
    refine CW.seq fun K5 hK5 => ?_
    refine CW.region ?_   -- region 2
    refine WL.val (Y.assign rfl) (by decide) ?_   -- t2 := assign c(['Go.Value.pointer', 'none'])
    refine WL.nil ?_
    refine hK5 _ _ ?_; try clear hK5 K5
    refine CW.ret ⟨_, rfl, ?_⟩
    exact absurd (show true = false by assumption) (by decide)
  -- else
  refine CW.skip ?_
  refine hK2 _ _ ?_; try clear hK2 K2
  refine CW.seq fun K6 hK6 => ?_
  refine CW.region ?_   -- region 3
  refine WL.call Try.func30 rfl rfl rfl (fnew0_any _) (by simp) ?_; rintro v10 w3 hR3   -- t10 := call F30() : 
  obtain ⟨g2, rb2, ra2, gr, rfl, hg2, hrb2, hra2, hne2, hB2, hMb, hMa, hx3⟩ := hR3
  have hz3 := hx3.size
  have hE := hE.thenExt hx3
  have hB1 := hB1.ext hx3
  have hlt2 := hB2.lt
  have hltb := hMb.lt
  have hlta := hMa.lt
  have hgb : g2 ≠ rb2 := by rintro rfl; exact blk_map hB2 hMb
  have hga : g2 ≠ ra2 := by rintro rfl; exact blk_map hB2 hMa
  refine WL.allocStore1 (by kernel_rfl) rfl (by simp) rfl rfl (by decide) fun g3 w4 hx4 hg3 hB3 => ?_   -- alloc 27; store 27 t3 t10
  have hlt3 := hB3.lt; have hz4 := hx4.size
  have hM3 := hB3.mem; have hz4 := hx4.size; have hE := hE.thenExt hx4; have hB1 := hB1.ext hx4
  refine WL.nil ?_
  refine hK6 _ _ ?_; try clear hK6 K6
  refine CW.seq fun K7 hK7 => ?_
  refine CW.head 7 (by kernel_rfl) (by kernel_rfl) fun w5 hx5 => ?_   -- region 4
  skip; have hz5 := hx5.size; have hE := hE.thenExt hx5; have hB1 := hB1.ext hx5; have hB3 := hB3.ext hx5
  refine HL.val (Y.load1 Try.underlying27 rfl hB3.mem.cell0 rfl) (by decide) ?_   -- t11 := load 27 t3
  refine HL.val (Y.load1 Try.underlying27 rfl hB1.mem.cell0 rfl) (by decide) ?_   -- t12 := load 27 t1
  refine HL.val (Y.nilCheck rfl) (by decide) ?_   -- t13 := nilCheck t12
  refine HL.val (Y.fieldAddr fo_fugueTree3 rfl) (by decide) ?_   -- t14 := fieldAddr 91 t13 3
  refine HL.val (Y.load1 Try.underlying3 rfl (hT.ext hE).blk.mem.fugueTree3 rfl) (by decide) ?_   -- t15 := load 3 t14
  refine HL.val (Y.nilCheck rfl) (by decide) ?_   -- t16 := nilCheck t11
  refine HL.val (Y.fieldAddr fo_fugueTree3 rfl) (by decide) ?_   -- t17 := fieldAddr 91 t16 3
  refine HL.nil ?_
  refine WL.store (g := g2) (pre := [.pointer (some ⟨gr, 0, none⟩), .map (some rb2), .map (some ra2)]) (old := [.int .i64 ((0 : Nat) : Int)]) (post := []) (new := [.int .i64 (liveN ns : Int)]) rfl rfl rfl rfl (by kernel_rfl) ((hB2.ext hx4).ext hx5) (by first | rfl | (simp [digC_length, opC_length]; done) | (simp only [digC_length, opC_length]; omega)) (one1 rfl) (fun w6 hc6 hB6_ => ?_)   -- _ := store 3 t17 t15
  have hz6 := hc6.size; have hE := hE.step hc6 (fun k h => by omega); have hB1 := hB1.chg hc6 (fun h => by omega); have hB3 := hB3.chg hc6 (fun h => by omega)
  have hB2 : Blk w6 g2 TF (treeC gr rb2 ra2 (liveN ns)) := hB6_
  have hMb := ((hMb.ext hx4).ext hx5).chg hc6 (fun h => hgb h.symm)
  have hMa := ((hMa.ext hx4).ext hx5).chg hc6 (fun h => hga h.symm)
  refine WL.nil ?_
  refine hK7 _ _ ?_; try clear hK7 K7
  refine CW.seq fun K8 hK8 => ?_
  refine CW.seq fun K9 hK9 => ?_
  refine CW.region ?_   -- region 5
  refine WL.val (Y.load1 Try.underlying27 rfl hB1.mem.cell0 rfl) (by decide) ?_   -- t18 := load 27 t1
  refine WL.val (Y.nilCheck rfl) (by decide) ?_   -- t19 := nilCheck t18
  refine WL.val (Y.fieldAddr fo_fugueTree2 rfl) (by decide) ?_   -- t20 := fieldAddr 91 t19 2
  refine WL.val (Y.load1 Try.underlying89 rfl (hT.ext hE).blk.mem.fugueTree2 rfl) (by decide) ?_   -- t21 := load 89 t20
  refine WL.st (St.range UMA rfl (hMp.ext hE) hold hborn) (by decide) fun v22 w7 hR7 => ?_   -- t22 := range 89 t21
  obtain ⟨r22, rfl, hr22, hGo, hx7⟩ := hR7
  have hz7 := hx7.size
  have hE := hE.thenExt hx7
  have hB1 := hB1.ext hx7
  have hB3 := hB3.ext hx7
  have hB2 := hB2.ext hx7
  have hMb := hMb.ext hx7
  have hMa := hMa.ext hx7
  have hltr := hGo.lt
  refine WL.nil ?_
  refine hK9 _ _ ?_; try clear hK9 K9
  refine CW.block ?_   -- block 0
  refine CW.loop (X := List AE) (fun x => [(1, .pointer (some ⟨g1, 0, none⟩)), (3, .pointer (some ⟨g3, 0, none⟩)), (22, .pointer (some ⟨r22, 0, none⟩))]) (fun x w0 => Going w0 r22 ra AE.me l cl x ∧ Blk w0 g1 TPF [.pointer (some ⟨g, 0, none⟩)] ∧ Blk w0 g3 TPF [.pointer (some ⟨g2, 0, none⟩)] ∧ Blk w0 g2 TF (treeC gr rb2 ra2 (liveN ns)) ∧ MapAt w0 rb2 BE.me ([] : List BE) 0 ∧ MapAt w0 ra2 AE.me (copA 0 x) (0 + x.length) ∧ Ext w w0 ∧ w7.heap.size ≤ w0.heap.size) (fun x => l.length - x.length) [] (by repeat (first | exact Fr.le.nil | refine Fr.le.cons rfl ?_)) ⟨hGo, hB1, hB3, hB2, hMb, hMa, hE, Nat.le_refl _⟩ ?_
  intro x w8 hl8
  obtain ⟨hGo, hB1, hB3, hB2, hMb, hMa, hE, hz8⟩ := hl8
  have hltg := hGo.lt
  refine CW.seq fun K10 hK10 => ?_
  refine CW.region ?_   -- region 6
  refine WL.st (St.next rfl hGo) (by decide) fun v23 w9 hR9 => ?_   -- t23 := next t22 false
  obtain ⟨bt, rest, rfl, hc9, hcase⟩ := hR9
  have hz9 := hc9.size
  have hE := hE.step hc9 (fun k h => by omega)
  have hB1 := hB1.chg hc9 (fun h => by omega)
  have hB3 := hB3.chg hc9 (fun h => by omega)
  have hB2 := hB2.chg hc9 (fun h => by omega)
  have hMb := hMb.chg hc9 (fun h => by omega)
  have hMa := hMa.chg hc9 (fun h => by omega)
  refine WL.val (Y.extractT rfl) (by decide) ?_   -- t24 := extract t23 0
  refine WL.nil ?_
  refine hK10 _ _ ?_; try clear hK10 K10
  refine CW.seq fun K11 hK11 => ?_
  first | refine CW.condD rfl (fun ht12 => ?_) (fun ht12 => ?_) | refine CW.condND rfl (fun ht12 => ?_) (fun ht12 => ?_) | refine CW.condN rfl (fun ht12 => ?_) (fun ht12 => ?_) | refine CW.cond rfl (fun ht12 => ?_) (fun ht12 => ?_)
  · -- then
    refine CW.skip ?_
    refine hK11 _ _ ?_; try clear hK11 K11
    obtain ⟨e, hel2, hev, hGo⟩ : ∃ e, e ∈ l ∧ e ∉ x ∧ Going w9 r22 ra AE.me l cl (x ++ [e]) := by
      rcases hcase with ⟨_, h⟩ | ⟨h, _⟩
      · exact h
      · rw [h] at ht12; cases ht12
    refine CW.block ?_   -- block 1
    refine CW.seq fun K13 hK13 => ?_
    refine CW.region ?_   -- region 7
    refine WL.val (Y.entry rfl hGo) (by decide) ?_   -- t25 := entry t22
    refine WL.val (Y.extract rfl rfl) (by decide) ?_   -- t26 := extract t25 0
    refine WL.val (Y.extract rfl rfl) (by decide) ?_   -- t27 := extract t25 1
    refine as_apiDigest rfl (by simp) (by decide) fun g4 w10 hx10 hg4 hB4 => ?_   -- alloc 24; store 24 t4 t26
    have hlt4 := hB4.lt; have hz10 := hx10.size
    have hM4 := hB4.mem; have hz10 := hx10.size; have hE := hE.thenExt hx10; have hB1 := hB1.ext hx10; have hB3 := hB3.ext hx10
    refine WL.val (Y.assign rfl) (by decide) ?_   -- t5 := assign t27
    refine WL.nil ?_
    refine hK13 _ _ ?_; try clear hK13 K13
    refine CW.head 6 (by kernel_rfl) (by kernel_rfl) fun w11 hx11 => ?_   -- region 8
    skip; have hz11 := hx11.size; have hE := hE.thenExt hx11; have hB1 := hB1.ext hx11; have hB3 := hB3.ext hx11; have hB4 := hB4.ext hx11
    refine HL.val (Y.load1 Try.underlying27 rfl hB3.mem.cell0 rfl) (by decide) ?_   -- t28 := load 27 t3
    refine HL.val (Y.nilCheck rfl) (by decide) ?_   -- t29 := nilCheck t28
    refine HL.val (Y.fieldAddr fo_fugueTree2 rfl) (by decide) ?_   -- t30 := fieldAddr 91 t29 2
    refine HL.val (Y.load1 Try.underlying89 rfl ((hB2.ext hx10).ext hx11).mem.fugueTree2 rfl) (by decide) ?_   -- t31 := load 89 t30
    refine HL.val (Y.load Try.underlying24 rfl hB4.mem (sz_apiDigest _) rfl) (by decide) ?_   -- t32 := load 24 t4
    refine HL.val (Y.move rfl) (by decide) ?_   -- t33 := move t5
    refine HL.nil ?_
    refine WL.su (Su.mapNew (b := ({ e with born := 0 + x.length } : AE)) keyDig (fun _ => rfl) UMA rfl rfl rfl ((hMa.ext hx10).ext hx11) (copA_new hkeys (fun y hy => hGo.sub y (by simp [hy])) hel2 hev) rfl) fun w12 hR12 => ?_   -- _ := mapUpdate 89 t31 t32 t33
    obtain ⟨hM12, hc12⟩ := hR12
    have hz12 := hc12.size
    have hE := hE.step hc12 (fun k h => by have h : k = ra2 := h; omega)
    have hfl := hGo.few
    rw [List.length_append, List.length_singleton] at hfl
    have hlg := hGo.lt
    refine WL.nil ?_
    refine ⟨x ++ [e], by show l.length - (x ++ [e]).length < l.length - x.length; rw [List.length_append, List.length_singleton]; omega, (by repeat (first | exact Fr.le.nil | refine Fr.le.cons rfl ?_)), ((hGo.ext hx10).ext hx11).chg hc12 (fun h => by omega) (fun h => by omega), hB1.chg hc12 (fun h => by omega), hB3.chg hc12 (fun h => by omega), ((hB2.ext hx10).ext hx11).chg hc12 (fun h => hga h), ((hMb.ext hx10).ext hx11).chg hc12 (fun h => by omega), ?_, hE, by omega⟩
    rw [copA_app, List.length_append, List.length_singleton, ← Nat.add_assoc]
    exact hM12
  -- else
  refine CW.exit ?_   -- exit 0
  refine hK8 _ _ ?_; try clear hK8 K8
  refine CW.seq fun K14 hK14 => ?_
  rcases hcase with ⟨h, _⟩ | ⟨_, hall, hGo⟩
  · rw [h] at ht12; cases ht12
  have hp := hGo.perm hall
  refine CW.region ?_   -- region 9
  refine WL.alloc (hifn) (hzfn) rfl (by decide) fun g6 w13 hx13 hg6 hB6 => ?_   -- t6 := alloc 103
  have hlt6 := hB6.lt; have hz13 := hx13.size
  have hM6 := hB6.mem; have hz13 := hx13.size; have hE := hE.thenExt hx13; have hB1 := hB1.ext hx13; have hB3 := hB3.ext hx13
  refine WL.nil ?_
  refine hK14 _ _ ?_; try clear hK14 K14
  refine CW.seq fun K15 hK15 => ?_
  refine CW.region ?_   -- region 10
  refine WL.val (Y.makeFunc rfl) (by decide) ?_   -- t34 := makeFunc ['Go.Fn.func', '48'] [] [t6, t1, t3]
  refine WL.store (g := g6) (pre := []) (old := [Value.nilFunc]) (post := []) (new := [.func (.func 48) #[] #[.pointer (some ⟨g6, 0, none⟩), .pointer (some ⟨g1, 0, none⟩), .pointer (some ⟨g3, 0, none⟩)]]) rfl rfl rfl rfl (by kernel_rfl) (by simpa using hB6) (by first | rfl | (simp [digC_length, opC_length]; done) | (simp only [digC_length, opC_length]; omega)) (one1 rfl) (fun w14 hc14 hB14_ => ?_)   -- _ := store 103 t6 t34
  have hz14 := hc14.size; have hE := hE.step hc14 (fun k h => by omega); have hB1 := hB1.chg hc14 (fun h => by omega); have hB3 := hB3.chg hc14 (fun h => by omega)
  have hB6 : Blk w14 g6 TCf [.func (.func 48) #[] #[.pointer (some ⟨g6, 0, none⟩), .pointer (some ⟨g1, 0, none⟩), .pointer (some ⟨g3, 0, none⟩)]] := by simpa using hB14_
  have hB2 := (hB2.ext hx13).chg hc14 (fun h => by omega)
  have hMb := (hMb.ext hx13).chg hc14 (fun h => by omega)
  have hMa := (hMa.ext hx13).chg hc14 (fun h => by omega)
  have hCp : CpAt w w14 ns g g6 g1 g3 g2 rb2 gr ra2 (liveN ns) [] := {
    ext := hE
    from_ := hB6
    tbox := hB1
    cbox := hB3
    tree := hB2
    map := hMb
    node := fun p hp => by cases hp
    kids := fun p hp => by cases hp
    has := fun p hp => by cases hp
    nodup := List.nodup_nil
    inj := fun p hp => by cases hp
    sep := fun p hp => by cases hp
    low := by omega
    new := fun p hp => by cases hp }
  refine WL.nil ?_
  refine hK15 _ _ ?_; try clear hK15 K15
  refine CW.seq fun K16 hK16 => ?_
  refine CW.held (fun wq => Chg (fun k => k = g2 ∨ k = rb2) w14 wq) (by kernel_rfl) 10 rfl fun w15 hx15 => ?_
  have hS := Ext.chg (S := fun k => k = g2 ∨ k = rb2) hx15
  have hCp := hCp.then hx15
  refine RH.take 0 (fun _ _ _ _ h => h) (by kernel_rfl) hS rfl (by kernel_rfl) (by kernel_rfl) (fun wq hq => Y.load1 Try.underlying27 rfl (hB3.chg hq (fun h => by omega)).mem.cell0 rfl) (by decide) ?_   -- t35 := load 27 t3
  refine RH.take 1 (fun _ _ _ _ h => h) (by kernel_rfl) hS rfl (by kernel_rfl) (by kernel_rfl) (fun wq hq => Y.load1 Try.underlying103 rfl (hB6.chg hq (fun h => by omega)).mem.cell0 rfl) (by decide) ?_   -- t36 := load 103 t6
  refine RH.take 2 (fun _ _ _ _ h => h) (by kernel_rfl) hS rfl (by kernel_rfl) (by kernel_rfl) (fun wq hq => Y.load1 Try.underlying27 rfl (hB1.chg hq (fun h => by omega)).mem.cell0 rfl) (by decide) ?_   -- t37 := load 27 t1
  refine RH.take 3 (fun _ _ _ _ h => h) (by kernel_rfl) hS rfl (by kernel_rfl) (by kernel_rfl) (fun wq hq => Y.nilCheck rfl) (by decide) ?_   -- t38 := nilCheck t37
  refine RH.take 4 (fun _ _ _ _ h => h) (by kernel_rfl) hS rfl (by kernel_rfl) (by kernel_rfl) (fun wq hq => Y.fieldAddr fo_fugueTree0 rfl) (by decide) ?_   -- t39 := fieldAddr 91 t38 0
  refine RH.take 5 (fun _ _ _ _ h => h) (by kernel_rfl) hS rfl (by kernel_rfl) (by kernel_rfl) (fun wq hq => Y.load1 Try.underlying87 rfl (((hT.ext hE).chg hq (fun q hp h => by have := hT.lt hp; omega)).blk.mem.fugueTree0) rfl) (by decide) ?_   -- t40 := load 87 t39
  refine RH.one 6 (by kernel_rfl) ?_
  refine RS.callV rfl rfl Try.func48 rfl rfl rfl (fcopy1_any g rb ra ad ns g6 g1 g3 g2 rb2 gr ra2 (liveN ns) w hT hG hn 0 (by have := hG.pos; omega) _ [] hCp (fun p hp => by cases hp)) (by decide) fun v41 w16 hR16 => ?_   -- call t36(t40) : 87
  obtain ⟨X, y, rfl, hX, hyX, hcov, hnew, hc16⟩ := hR16
  rw [List.nil_append] at hX
  have hS := hS.trans hc16 (fun k _ h => .inr h)
  refine ⟨hS, ?_⟩
  refine RH.take 7 (fun _ _ _ _ h => h) (by kernel_rfl) hS rfl (by kernel_rfl) (by kernel_rfl) (fun wq hq => Y.nilCheck rfl) (by decide) ?_   -- t42 := nilCheck t35
  refine RH.take 8 (fun _ _ _ _ h => h) (by kernel_rfl) hS rfl (by kernel_rfl) (by kernel_rfl) (fun wq hq => Y.fieldAddr fo_fugueTree0 rfl) (by decide) ?_   -- t43 := fieldAddr 91 t42 0
  refine RH.one 9 (by kernel_rfl) ?_
  refine RS.store rfl (g := g2) (pre := []) (old := [.pointer (some ⟨gr, 0, none⟩)]) (post := [.map (some rb2), .map (some ra2), .int .i64 (liveN ns : Int)]) (new := [.pointer (some ⟨y.g, 0, none⟩)]) rfl rfl rfl rfl (by kernel_rfl) hX.tree rfl (one1 rfl) (fun w17 hc17 hB17_ => ?_)   -- store 87 t43 t41
  have hS := hS.trans hc17 (fun k _ h => .inl h)
  have hB17 : Blk w17 g2 TF (treeC y.g rb2 ra2 (liveN ns)) := hB17_
  refine ⟨hS, ?_⟩
  refine RH.done (by kernel_rfl) ?_
  have hz17 := hS.size
  have hE := hE.step hS (fun k h => by omega)
  have hB3 := hX.cbox.chg hc17 (fun h => by omega)
  have hgD : gD X 0 = y.g := gD_mem hX.nodup hyX
  have hMa16 := (hMa.ext hx15).chg hc16 (fun h => by omega)
  have hcov : ∀ i, (∃ p ∈ X, p.1 = i) ↔ i < ns.length := fun i => by rw [hcov i, ← hel]; exact hG.mem
  have hfin := hX.ftAt hT hG hcov hc17 (by rw [hgD]; exact hB17) ⟨_, _, hMa16, fun f hf => (copA_mem hf).choose_spec.2.2.2, copA_born, by rw [copA_k]; exact (hp.map AE.k).nodup_iff.2 hkeys, fun d => by rw [copA_k]; exact (hp.map AE.k).mem_iff.trans (hmem d)⟩ (by omega)
  have hXn := hX.nodup
  have hXw := hX.new
  refine hK16 _ _ ?_; try clear hK16 K16
  refine CW.seq fun K17 hK17 => ?_
  refine CW.region ?_   -- region 12
  refine WL.val (Y.load1 Try.underlying27 rfl hB3.mem.cell0 rfl) (by decide) ?_   -- t44 := load 27 t3
  refine WL.val (Y.assign rfl) (by decide) ?_   -- t2 := assign t44
  refine WL.nil ?_
  refine hK17 _ _ ?_; try clear hK17 K17
  refine CW.ret ⟨_, rfl, ?_⟩
  exact ⟨g2, rb2, ra2, nsD ns.length X, rfl, hfin.1, hfin.2, (fun q hq => by
    rcases hq with h | h | h | ⟨x, hx, h⟩
    · omega
    · omega
    · omega
    · obtain ⟨p, hp, rfl⟩ := nsD_mem hXn hcov hx
      rcases h with h | ⟨s, h⟩
      · have := (hXw p hp).1; omega
      · exact (hXw p hp).2 s q h), hE⟩
end Go.Proofs.Ytffkmlkdlhkkmaa
