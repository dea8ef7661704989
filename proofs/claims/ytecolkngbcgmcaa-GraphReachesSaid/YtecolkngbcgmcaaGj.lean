/- graph.Heads, walked. No condition. -/
import Derived.Test.YtecolkngbcgmcaaGi
set_option linter.unusedSimpArgs false
set_option linter.unusedVariables false
namespace Go.Fw
open Go.RowKit
theorem run_bs2 {P : Program} {t e : TypeId} {ie : TypeInfo} {z : Value} {a b : Value} (hu : P.underlying t = some (.slice e)) (hi : P.info? e = some ie) (hz : ie.zero = some z) (h1 : ie.size = 1) (ha : a.cells = #[a]) (hb : b.cells = #[b]) (w : World) :
    (Instr.buildSlice t 2 [(0, a), (1, b)].toArray).run P w = .ok (.slice (some ⟨w.heap.size, 0, none⟩) 2 2) (w.alloc (.cells [a, b].toArray e)) := by
  refine run_buildSlice w t e 2 _ _ ie z hu hi hz (by omega) (by omega) ?_
  have h := Go.Great.fill_whole (s := ie.size) (by omega) [a, b] ((Array.range (2 * ie.size)).map (z.cells[· % z.cells.size]!)) (by intro u hu; simp at hu; rcases hu with rfl | rfl <;> simp [*]) (by simp)
  simpa [ha, hb] using h
theorem Blk.slV {w : World} {g : Nat} {e : TypeId} {ds : List (Value × List Dig)} (h : Blk w g e (ds.map Prod.fst)) (hl : ds.length ≤ maxLen) : Sl w (fun x : Value × List Dig => [x.1]) 1 (.slice (some ⟨g, 0, none⟩) ds.length ds.length) ds :=
  ⟨_, _, _, rfl, rfl, Nat.le_refl _, hl, fun i x hi => ⟨_, rfl, by
    rw [Nat.mul_one]
    exact h.mem.sub i fun j v hj => by
      cases j with
      | zero => simp at hj; subst hj; simp [hi]
      | succ j => simp at hj⟩⟩
end Go.Fw
namespace Go.Proofs.Ytecolkngbcgmcaa
open Go.RowKit Go.Fw Go.Pl Go.Sort
theorem info_sd : ∃ i : TypeInfo, Try.prog.info? TSd = some i ∧ i.zero = some (.slice none 0 0) ∧ i.size = 1 := by
  have h : (Try.prog.info? TSd).map (fun i => (i.zero, i.size)) = some (some (.slice none 0 0), 1) := by kernel_rfl
  cases hi : Try.prog.info? TSd with
  | none => simp [hi] at h
  | some i => simp [hi] at h; exact ⟨i, rfl, h.1, h.2⟩
theorem bs1_sd (A : Option Addr) (m c : Nat) (w : World) : (Instr.buildSlice 78 1 [(0, .slice A m c)].toArray).run Try.prog w = .ok (.slice (some ⟨w.heap.size, 0, none⟩) 1 1) (w.alloc (.cells [.slice A m c].toArray TSd)) := by
  obtain ⟨i, hi, hz, hs⟩ := info_sd
  exact run_bs1 Try.underlying78 hi hz (by omega) (by omega) rfl (by rw [hs]; rfl) w
theorem bs2_sd (A B : Option Addr) (m c n d : Nat) (w : World) : (Instr.buildSlice 78 2 [(0, .slice A m c), (1, .slice B n d)].toArray).run Try.prog w = .ok (.slice (some ⟨w.heap.size, 0, none⟩) 2 2) (w.alloc (.cells [.slice A m c, .slice B n d].toArray TSd)) := by
  obtain ⟨i, hi, hz, hs⟩ := info_sd
  exact run_bs2 Try.underlying78 hi hz hs rfl rfl w
theorem wrongQ_in {l : List Nd} {ids : List Dig} (h : wrongQ l ids = 0) : ∀ d ∈ ids, d ∈ idsL l := by
  intro d hd
  unfold wrongQ at h
  split at h
  · rename_i h1; exact absurd h h1
  · split at h
    · omega
    · rename_i h2
      by_cases hm : d ∈ idsL l
      · exact hm
      · exact absurd ⟨d, hd, hm⟩ h2

set_option maxRecDepth 100000 in
set_option maxHeartbeats 1000000 in
theorem gHeads_any (u v0 : Value) (l : List NdV) (ids : List Dig) (w : World) (hl : Nds w u l) (hd : Sl w digC 32 v0 ids) : Calls Try.prog 14 #[u, v0] w (Ret fun v w' => ∃ hv, v = .tuple #[hv, .int .i64 (wrongQ (ndsL l) ids)] ∧ Own w' TDg 32 hv (flatD (if wrongQ (ndsL l) ids = 0 then headsL (ndsL l) (mark0 (ndsL l) ids) else [])) ∧ (∀ k, hv.ownBlock = some k → w.heap.size ≤ k) ∧ Ext w w') := by
  have hl0 := hl
  obtain ⟨A, c, rfl, hmc, hcm⟩ := hl.sl.lens
  unfold maxLen at hcm
  have hd0 := hd
  obtain ⟨A1, m1, c1, rfl, hdm, hdc, hdx, hdg⟩ := hd
  unfold maxLen at hdx
  have hnl : (ndsL l).length = l.length := by simp
  obtain ⟨bi, hbi, hbz, hbs, hbb⟩ := info_boolT
  refine calls_of_CW 42 [4, 5] [(0, .slice A l.length c), (1, .slice A1 m1 c1)] Try.func14 rfl rfl rfl (by simp) args2 ?_
  have hE : Ext w w := Chg.refl
  refine CW.seq fun K1 hK1 => ?_
  refine CW.region ?_   -- region 0
  refine WL.val (Y.assign rfl) (by decide) ?_   -- t4 := assign c(nilslice)
  refine WL.val (Y.assign rfl) (by decide) ?_   -- t5 := assign c(0:i64)
  refine WL.nil ?_
  refine hK1 _ _ ?_; try clear hK1 K1
  refine CW.seq fun K2 hK2 => ?_
  refine CW.region ?_   -- region 1
  refine WL.val (Y.move rfl) (by decide) ?_   -- t12 := move t0
  refine WL.val (Y.move rfl) (by decide) ?_   -- t13 := move t1
  refine WL.st (St.buildSlice rfl (bs1_sd _ _ _)) (by decide) fun v14 w1 hR1 => ?_   -- t14 := buildSlice 78 1 [(0,t13)]
  obtain ⟨g14, rfl, hg14, hB14, hx1⟩ := hR1
  have hz1 := hx1.size
  have hE := hE.thenExt hx1
  refine WL.call Try.func35 rfl rfl rfl (gbegin_any _ _ l [(.slice A1 m1 c1, ids)] _ (hl0.ext hx1) (Blk.slV (ds := [(.slice A1 m1 c1, ids)]) hB14 (by simp [maxLen])) (fun x hx => by simp at hx; subst hx; exact hd0.ext hx1)) (by simp) ?_; rintro v15 w2 hR2   -- t15 := call F35(t12, t14) : 22,78
  obtain ⟨p, rfl, hx2, hp⟩ := hR2
  have hz2 := hx2.size
  have hE := hE.thenExt hx2
  have hfl : ([((.slice A1 m1 c1 : Value), ids)].map Prod.snd).flatten = ids := by simp
  simp only [hfl] at hp ⊢
  refine WL.val (Y.move rfl) (by decide) ?_   -- t11 := move t15
  refine WL.val (Y.extract rfl rfl) (by decide) ?_   -- t16 := extract t11 0
  refine WL.val (Y.extract rfl rfl) (by decide) ?_   -- t17 := extract t11 1
  refine WL.val (Y.assign rfl) (by decide) ?_   -- t6 := assign t16
  refine WL.val (Y.assign rfl) (by decide) ?_   -- t7 := assign t17
  refine WL.nil ?_
  refine hK2 _ _ ?_; try clear hK2 K2
  refine CW.seq fun K3 hK3 => ?_
  refine CW.seq fun K4 hK4 => ?_
  refine CW.region ?_   -- region 2
  refine WL.val (Y.move rfl) (by decide) ?_   -- t18 := move t7
  refine WL.val (Y.neq rfl rfl) (by decide) ?_   -- t19 := binOp neq 24 t18 c(0:i64) 24
  refine WL.nil ?_
  refine hK4 _ _ ?_; try clear hK4 K4
  first | refine CW.condD rfl (fun ht5 => ?_) (fun ht5 => ?_) | refine CW.condND rfl (fun ht5 => ?_) (fun ht5 => ?_) | refine CW.condN rfl (fun ht5 => ?_) (fun ht5 => ?_) | refine CW.cond rfl (fun ht5 => ?_) (fun ht5 => ?_)
  · -- then
    refine CW.seq fun K6 hK6 => ?_
    refine CW.region ?_   -- region 3
    refine WL.val (Y.move rfl) (by decide) ?_   -- t20 := move t7
    refine WL.val (Y.assign rfl) (by decide) ?_   -- t4 := assign c(nilslice)
    refine WL.val (Y.assign rfl) (by decide) ?_   -- t5 := assign t20
    refine WL.nil ?_
    refine hK6 _ _ ?_; try clear hK6 K6
    refine CW.ret ⟨_, rfl, ?_⟩
    have he : ¬ wrongQ (ndsL l) ids = 0 := by assumption
    exact ⟨_, rfl, by rw [if_neg he]; exact Own.nil, (fun k h => by simp [Value.ownBlock] at h), hE⟩
  -- else
  refine CW.skip ?_
  refine hK3 _ _ ?_; try clear hK3 K3
  refine CW.seq fun K7 hK7 => ?_
  have hq0 : wrongQ (ndsL l) ids = 0 := Decidable.not_not.1 (by assumption)
  obtain ⟨gk, r, sb, rfl, hK⟩ := hp hq0
  have hin := wrongQ_in hq0
  have hln := ok_len hK.ok
  have hltK := hK.lt
  have hnew := hK.new
  refine CW.region ?_   -- region 4
  refine WL.val (Y.move rfl) (by decide) ?_   -- t21 := move t0
  refine WL.val (Y.len_slice Try.underlying22 rfl) (by decide) ?_   -- t22 := call len(t21) : 22
  refine WL.st (St.makeB Try.underlying58 hbi hbz hbs hbb rfl rfl (by omega)) (by decide) fun v23 w3 hR3 => ?_   -- t23 := makeSlice 58 t22 t22
  obtain ⟨b, rfl, hb, hIn, hx3⟩ := hR3
  have hz3 := hx3.size
  have hE := hE.thenExt hx3
  have hK := hK.ext hx3
  have hltb := hIn.lt
  refine WL.val (Y.assign rfl) (by decide) ?_   -- t8 := assign t23
  refine WL.nil ?_
  refine hK7 _ _ ?_; try clear hK7 K7
  refine CW.seq fun K8 hK8 => ?_
  refine CW.seq fun K9 hK9 => ?_
  refine CW.region ?_   -- region 5
  refine WL.val (Y.move rfl) (by decide) ?_   -- t24 := move t1
  refine WL.val (Y.len_slice Try.underlying23 rfl) (by decide) ?_   -- t25 := call len(t24) : 23
  refine WL.val (Y.move rfl) (by decide) ?_   -- t26 := move c(0:i64)
  refine WL.nil ?_
  refine hK9 _ _ ?_; try clear hK9 K9
  refine CW.block ?_   -- block 0
  refine CW.loop (X := Nat) (fun x => [(6, .pointer (some ⟨gk, 0, none⟩)), (8, .slice (some ⟨b, 0, none⟩) l.length l.length), (24, .slice A1 m1 c1), (25, .int .i64 (m1 : Int)), (26, .int .i64 (x : Int))]) (fun x w0 => x ≤ m1 ∧ Blk w0 b TBo (boolC (setAll (ndsL l) (List.replicate l.length false) (ids.take x))) ∧ Ext w w0 ∧ LookAt w1 w0 gk r sb (.slice A l.length c) l (List.replicate l.length false)) (fun x => m1 - x) 0 (by repeat (first | exact Fr.le.nil | refine Fr.le.cons rfl ?_)) ⟨Nat.zero_le _, by simpa [setAll] using hIn, hE, hK⟩ ?_
  intro x w4 hl4
  clear hE hK hIn
  obtain ⟨hxm, hIn, hE, hK⟩ := hl4
  have hltK2 := hK.lt
  have hltb2 := hIn.lt
  have hzE := hE.size
  refine CW.seq fun K10 hK10 => ?_
  refine CW.region ?_   -- region 6
  refine WL.val (Y.lss rfl rfl) (by decide) ?_   -- t27 := binOp lss 3 t26 t25 3
  refine WL.nil ?_
  refine hK10 _ _ ?_; try clear hK10 K10
  refine CW.seq fun K11 hK11 => ?_
  first | refine CW.condD rfl (fun ht12 => ?_) (fun ht12 => ?_) | refine CW.condND rfl (fun ht12 => ?_) (fun ht12 => ?_) | refine CW.condN rfl (fun ht12 => ?_) (fun ht12 => ?_) | refine CW.cond rfl (fun ht12 => ?_) (fun ht12 => ?_)
  · -- then
    refine CW.skip ?_
    refine hK11 _ _ ?_; try clear hK11 K11
    refine CW.seq fun K13 hK13 => ?_
    refine CW.block ?_   -- block 1
    refine CW.seq fun K14 hK14 => ?_
    obtain ⟨d, hd⟩ : ∃ d, ids[x]? = some d := ⟨_, List.getElem?_eq_getElem (by omega)⟩
    obtain ⟨a, rfl, hma⟩ := hdg _ _ hd
    have hix := ixN_lt (hin d (List.mem_of_getElem? hd))
    rw [hnl] at hix
    obtain ⟨jf, hf⟩ := placed_ix (hin d (List.mem_of_getElem? hd))
    obtain ⟨cb, hcb⟩ : ∃ cb, (setAll (ndsL l) (List.replicate l.length false) (ids.take x))[ixN (ndsL l) d]? = some cb := ⟨_, List.getElem?_eq_getElem (by rw [setAll_length, List.length_replicate]; omega)⟩
    refine CW.region ?_   -- region 7
    refine WL.val (Y.indexAddrN Try.underlying23 rfl rfl sz0_apiDigest (by omega)) (by decide) ?_   -- t28 := indexAddr 23 t24 t26
    refine WL.val (Y.load Try.underlying45 rfl (hma.ext hE) (sz_apiDigest _) rfl) (by decide) ?_   -- t29 := load 45 t28
    refine as_apiDigest rfl (by simp) (by decide) fun g10 w5 hx5 hg10 hB10 => ?_   -- alloc 45; store 45 t10 t29
    have hlt10 := hB10.lt; have hz5 := hx5.size
    have hM10 := hB10.mem; have hz5 := hx5.size; have hE := hE.thenExt hx5
    refine WL.nil ?_
    refine hK14 _ _ ?_; try clear hK14 K14
    refine CW.head 8 (by kernel_rfl) (by kernel_rfl) fun w6 hx6 => ?_   -- region 8
    skip; have hz6 := hx6.size; have hE := hE.thenExt hx6; have hB10 := hB10.ext hx6
    refine HL.val (Y.move rfl) (by decide) ?_   -- t30 := move t8
    refine HL.val (Y.move rfl) (by decide) ?_   -- t31 := move t6
    refine HL.val (Y.nilCheck rfl) (by decide) ?_   -- t32 := nilCheck t31
    refine HL.val (Y.fieldAddr fo_graphlook1 rfl) (by decide) ?_   -- t33 := fieldAddr 61 t32 1
    refine HL.val (Y.load1 Try.underlying59 rfl ((hK.ext hx5).ext hx6).blk.mem.graphlook1 rfl) (by decide) ?_   -- t34 := load 59 t33
    refine HL.val (Y.load Try.underlying45 rfl hB10.mem (sz_apiDigest _) rfl) (by decide) ?_   -- t35 := load 45 t10
    refine HL.val (Y.lookupAt keyDig (fun _ => rfl) Try.underlying59 rfl rfl ((hK.ext hx5).ext hx6).map hf rfl) (by decide) ?_   -- t36 := lookup 59 t34 t35 false
    refine HL.val (Y.indexAddrN Try.underlying58 rfl rfl sz0_bool (by omega)) (by decide) ?_   -- t37 := indexAddr 58 t30 t36
    refine HL.nil ?_
    refine WL.storeB rfl rfl rfl sz_bool ((hIn.ext hx5).ext hx6) hcb (fun w7 hc7 hB7_ => ?_)   -- _ := store 4 t37 c(true)
    have hz7 := hc7.size; have hE := hE.step hc7 (fun k h => by omega); have hB10 := hB10.chg hc7 (fun h => by omega)
    have hK := ((hK.ext hx5).ext hx6).chg hc7 (fun h => by omega) (fun h => by omega) (fun h => by omega) (fun k h => by omega)
    refine WL.nil ?_
    refine hK13 _ _ ?_; try clear hK13 K13
    refine CW.region ?_   -- region 9
    refine WL.val (Y.add rfl rfl ⟨by omega, by omega⟩) (by decide) ?_   -- t38 := binOp add 3 t26 c(1:i64) 3
    refine WL.val (Y.move rfl) (by decide) ?_   -- t26 := move t38
    refine WL.nil ?_
    refine ⟨x + 1, by show m1 - (x + 1) < m1 - x; omega, (by repeat (first | exact Fr.le.nil | refine Fr.le.cons rfl ?_)), by show x + 1 ≤ m1; omega, ?_, hE, hK⟩
    show Blk _ _ _ (boolC (setAll _ _ (ids.take (x + 1))))
    rw [take_succ hd, setAll_app]
    exact hB7_
  -- else
  refine CW.exit ?_   -- exit 0
  refine hK8 _ _ ?_; try clear hK8 K8
  refine CW.seq fun K15 hK15 => ?_
  refine CW.region ?_   -- region 10
  refine WL.val (Y.move rfl) (by decide) ?_   -- t39 := move t6
  refine WL.val (Y.move rfl) (by decide) ?_   -- t40 := move t8
  refine WL.call Try.func36 rfl rfl rfl (gheads_any w1 _ gk r sb b _ l _ (mark0 (ndsL l) ids) hK (by rw [mark0, hnl]; rw [List.take_of_length_le (by omega)] at hIn; exact hIn) (by rw [mark0_length, hnl])) (by simp) ?_; rintro v41 w8 hR8   -- t41 := call F36(t39, t40) : 55,58
  obtain ⟨hO, hfu, hx8⟩ := hR8
  have hz8 := hx8.size
  have hzE2 := hE.size
  have hE := hE.thenExt hx8
  refine WL.val (Y.assign rfl) (by decide) ?_   -- t4 := assign t41
  refine WL.val (Y.assign rfl) (by decide) ?_   -- t5 := assign c(0:i64)
  refine WL.nil ?_
  refine hK15 _ _ ?_; try clear hK15 K15
  refine CW.ret ⟨_, rfl, ?_⟩
  exact ⟨_, by rw [hq0], by rw [if_pos hq0]; exact hO, fun k hk => by have := hfu k hk; omega, hE⟩
end Go.Proofs.Ytecolkngbcgmcaa
