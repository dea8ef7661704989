/- Parts of a proof: what its last text leans on. No condition. -/
import Derived.Test.YtjbeooimhoilmaaGreatDoorK16
import Derived.Test.YtjbeooimhoilmaaGreatDoorK17
set_option linter.unusedSimpArgs false
set_option linter.unusedVariables false
/- A history is read: read, Check, Nodes, walked. No condition but the table of digest.keys. -/
namespace Go.Proofs.YtjbeooimhoilmaaGreatDoor
open Go.RowKit Go.Fw Go.Pl Go.Sort Go.Fu
theorem ai_ndH : AppInfo Tryz.prog TNo 33 56 := by
 have h : (Tryz.prog.info? TNo).map (fun i => (i.zero, i.size, i.bytes)) = some (some (ndV NdV.zero), 33, 56) := by kernel_rfl
 cases hi : Tryz.prog.info? TNo with
 | none => simp [hi] at h
 | some i =>
  simp [hi] at h
  exact ⟨i, _, hi, h.1, h.2.1, by show (ndC NdV.zero).toArray.size = 33; simp [ndC_length], h.2.2, by decide, by decide⟩
theorem bs1_ndH (x : NdV) (w : World) : (Instr.buildSlice 37 1 [(0, ndV x)].toArray).run Tryz.prog w = .ok (.slice (some ⟨w.heap.size, 0, none⟩) 1 1) (w.alloc (.cells (ndC x).toArray TNo)) := by
 obtain ⟨i, z, hi, hz, hk, _⟩ := ai_ndH
 exact run_bs1 Tryz.underlying37 hi hz (by omega) (by omega) rfl (by rw [ndC_length, hk]) w
theorem build_ndH (d : Dig) (ps : List Dig) (A : Option Addr) (m c : Nat) (h : m = ps.length) (w : World) : (Instr.build TNo [(0, digV d), (1, .slice A m c)].toArray).run Tryz.prog w = .ok (ndV ⟨⟨d, ps⟩, A, c⟩) w := by
 subst h
 refine run_build w _ _ _ ?_
 have hb : ∀ parts, Tryz.prog.built TNo parts = Instr.fill (fun i => #[(0, 32), (32, 1)][i]?) (ndC NdV.zero).toArray parts := fun parts => by kernel_rfl
 show Tryz.prog.built _ [(0, digV d), (1, .slice A ps.length c)] = _
 rw [hb]
 have e0 : ndC NdV.zero = [] ++ digC Dig.zero ++ [.slice none 0 0] := rfl
 rw [e0, fill_step [] (digC Dig.zero) [.slice none 0 0] (digC d) (by rw [digC_length]; rfl) rfl (by rw [digC_length, digC_length]) rfl]
 have e1 : [] ++ digC d ++ [.slice none 0 0] = digC d ++ [.slice none 0 0] ++ [] := by simp
 rw [e1, fill_step (digC d) [.slice none 0 0] [] [.slice A ps.length c] rfl rfl rfl (digC_length d), Instr.fill]
 simp [ndC]
theorem one_fdH (l : List Dig) : ∀ u ∈ flatD l, u.oneCell' = true := by
 intro u hu
 obtain ⟨c, hc, hu⟩ := List.mem_flatten.1 hu
 obtain ⟨d, _, rfl⟩ := List.mem_map.1 hc
 exact one_digC u hu
theorem flat_nd (l : List NdV) : ((l.map ndC).flatten).length = l.length * 33 := flat_length ndC_length l
structure RdAt (w w0 : World) (A : Option Addr) (c : Nat) (ys : List NdV) : Prop where
 own : Own w0 TNo 33 (.slice A ys.length c) ((ys.map ndC).flatten)
 ps : ∀ y ∈ ys, Own w0 43 32 y.pv (flatD y.n.ps)
 new : ∀ k, (Value.slice A ys.length c).ownBlock = some k → w.heap.size ≤ k
 pnew : ∀ y ∈ ys, ∀ k, y.pv.ownBlock = some k → w.heap.size ≤ k ∧ (Value.slice A ys.length c).ownBlock ≠ some k
theorem RdAt.chg {w w0 w1 : World} {A : Option Addr} {c : Nat} {ys : List NdV} {S : Nat → Prop} (h : RdAt w w0 A c ys) (hc : Chg S w0 w1) (hs : ∀ k, w.heap.size ≤ k → ¬ S k) : RdAt w w1 A c ys :=
 ⟨h.own.chg hc fun k hk => hs k (h.new k hk), fun y hy => (h.ps y hy).chg hc fun k hk => hs k (h.pnew y hy k hk).1, h.new, h.pnew⟩
theorem RdAt.ext {w w0 w1 : World} {A : Option Addr} {c : Nat} {ys : List NdV} (h : RdAt w w0 A c ys) (hc : Ext w0 w1) : RdAt w w1 A c ys := h.chg hc fun _ _ f => f
theorem RdAt.nds {w w0 : World} {A : Option Addr} {c : Nat} {ys : List NdV} (h : RdAt w w0 A c ys) : Nds w0 (.slice A ys.length c) ys :=
 ⟨h.own.sl ndC_length (by decide), fun y hy => (h.ps y hy).sl digC_length (by decide)⟩
theorem RdAt.old {w' w w0 : World} {A : Option Addr} {c : Nat} {ys : List NdV} (h : RdAt w w0 A c ys) (hw : w'.heap.size ≤ w.heap.size) : RdAt w' w0 A c ys :=
 ⟨h.own, h.ps, fun k hk => Nat.le_trans hw (h.new k hk), fun y hy k hk => ⟨Nat.le_trans hw (h.pnew y hy k hk).1, (h.pnew y hy k hk).2⟩⟩
theorem RdAt.nil {w w0 : World} : RdAt w w0 none 0 [] := ⟨Own.nil, fun y hy => (by cases hy), fun k hk => (by simp [Value.ownBlock] at hk), fun y hy => (by cases hy)⟩
theorem RdAt.add {w w0 w1 : World} {A A' : Option Addr} {c n' c' : Nat} {ys : List NdV} {y : NdV} (h : RdAt w w0 A c ys) (hy : Own w0 43 32 y.pv (flatD y.n.ps)) (hyn : ∀ k, y.pv.ownBlock = some k → w.heap.size ≤ k ∧ (Value.slice A ys.length c).ownBlock ≠ some k)
  (hO : Own w1 TNo 33 (.slice A' n' c') ((ys.map ndC).flatten ++ ndC y)) (hc : Chg (fun k => (Value.slice A ys.length c).ownBlock = some k) w0 w1) (hf : (Value.slice A' n' c').ownBlock = (Value.slice A ys.length c).ownBlock ∨ ∀ k, (Value.slice A' n' c').ownBlock = some k → w0.heap.size ≤ k) (hw : w.heap.size ≤ w0.heap.size) :
  n' = (ys ++ [y]).length ∧ RdAt w w1 A' c' (ys ++ [y]) := by
 have hn : n' = (ys ++ [y]).length := by
  have := (hO.mem A' n' c' rfl).2.2.1
  rw [List.length_append, flat_nd, ndC_length] at this
  rw [List.length_append, List.length_singleton]
  omega
 subst hn
 refine ⟨rfl, by simpa using hO, fun z hz => ?_, fun k hk => ?_, fun z hz k hk => ?_⟩
 ·
  rcases List.mem_append.1 hz with hz | hz
  ·
   exact (h.ps z hz).chg hc fun k hk => (h.pnew z hz k hk).2
  ·
   simp at hz; subst hz
   exact hy.chg hc fun k hk => (hyn k hk).2
 ·
  rcases hf with h1 | h1
  ·
   exact h.new k (h1 ▸ hk)
  ·
   exact Nat.le_trans hw (h1 k hk)
 ·
  have key : w.heap.size ≤ k ∧ (Value.slice A ys.length c).ownBlock ≠ some k ∧ k < w0.heap.size := by
   rcases List.mem_append.1 hz with hz | hz
   ·
    exact ⟨(h.pnew z hz k hk).1, (h.pnew z hz k hk).2, (h.ps z hz).lt k hk⟩
   ·
    simp at hz; subst hz
    exact ⟨(hyn k hk).1, (hyn k hk).2, hy.lt k hk⟩
  refine ⟨key.1, fun e => ?_⟩
  rcases hf with h1 | h1
  ·
   exact key.2.1 (h1 ▸ e)
  ·
   have := h1 k e; omega
theorem info_apiCommitH : ∃ i : TypeInfo, Tryz.prog.info? 48 = some i ∧ i.zero = some (.agg (comC (.slice none 0 0) ByteArray.empty ByteArray.empty (.slice none 0 0)).toArray) ∧ i.size = 4 := by
 have h : (Tryz.prog.info? 48).map (fun i => (i.zero, i.size)) = some (some (.agg (comC (.slice none 0 0) ByteArray.empty ByteArray.empty (.slice none 0 0)).toArray), 4) := by kernel_rfl
 cases hi : Tryz.prog.info? 48 with
 | none => simp [hi] at h
 | some i => simp [hi] at h; exact ⟨i, rfl, h.1, h.2⟩
theorem one4 {a b c d : Value} (ha : a.oneCell' = true) (hb : b.oneCell' = true) (hc : c.oneCell' = true) (hd : d.oneCell' = true) : ∀ u ∈ [a, b, c, d], u.oneCell' = true := by
 intro u hu; simp at hu; rcases hu with rfl | rfl | rfl | rfl <;> assumption
theorem cs_at {l : List CoV} {x : Nat} {y : CoV} (h : l[x]? = some y) : (csL l)[x]? = some y.c := by simp [h]
set_option maxRecDepth 100000 in
set_option maxHeartbeats 4000000 in
theorem hread_any (u : Value) (l : List CoV) (w : World) (hl : Hcs w u l) (hK : Mem w ⟨0, 0, none⟩ (wds keysL)) : Calls Tryz.prog 25 #[u] w (Ret fun v w' => ∃ A c r cl ys k, v = .tuple #[.agg (paC A ys.length c r).toArray, .int .i64 ((rdH (csL l)).1 : Int), .int .i64 (rdH (csL l)).2] ∧ RdAt w w' A c ys ∧ PaAt w' A c r cl ys ((csL l).take k) ∧ w.heap.size ≤ r ∧ ((rdH (csL l)).2 = 0 → k = l.length) ∧ Ext w w') := by
 obtain ⟨A2, m2, c2, rfl, hlm, hmc, hcm, hlg⟩ := id hl.sl
 unfold maxLen at hcm
 obtain ⟨pi_, hpi, hpz, hps_⟩ := info_past
 obtain ⟨ci_, hci, hcz, hcs⟩ := info_apiCommitH
 have hcl : (csL l).length = m2 := by rw [List.length_map]; exact hlm
 refine calls_of_CWct 51 2 2 [3, 4] [(0, .slice A2 m2 c2)] Tryz.func25 rfl rfl rfl Tryz.underlying74 rfl (by kernel_rfl) (by simp) args1 ?_
 have hE : Ext w w := Chg.refl
 refine CW.sr fun K1 hK1 => ?_
 refine WL.alloc (hpi) (hpz) rfl (by decide) fun g2 w1 hx1 hg2 hB2 => ?_
 have hlt2 := hB2.lt; have hz1 := hx1.size
 have hM2 := hB2.mem; have hz1 := hx1.size; have hE := hE.thenExt hx1
 refine WL.a rfl ?_
 refine WL.a rfl ?_
 refine WL.nil (hK1 _ _ ?_); try clear hK1 K1
 refine CW.sr fun K2 hK2 => ?_
 refine WL.st (St.makeMap) (by decide) fun v10 w2 hR2 => ?_
 obtain ⟨r, rfl, hr, hMp, hx2⟩ := hR2
 have hz2 := hx2.size
 have hE := hE.thenExt hx2
 have hB2 := hB2.ext hx2
 have hM := hMp _ pme
 have hrl := hM.lt
 refine WL.v (Y.build rfl (build_past _ _)) ?_
 refine as_historypast rfl (by simp) (by decide) fun g5 w3 hx3 hg5 hB5 => ?_
 have hlt5 := hB5.lt; have hz3 := hx3.size
 have hM5 := hB5.mem; have hz3 := hx3.size; have hE := hE.thenExt hx3; have hB2 := hB2.ext hx3
 refine WL.nil (hK2 _ _ ?_); try clear hK2 K2
 refine CW.seq fun K3 hK3 => ?_
 refine CW.sr fun K4 hK4 => ?_
 refine WL.m rfl ?_
 refine WL.v (Y.len_slice Tryz.underlying22 rfl) ?_
 refine WL.v (Y.gtr rfl rfl) ?_
 refine WL.nil (hK4 _ _ ?_); try clear hK4 K4
 (first | refine CW.condD rfl ?_ ?_ | refine CW.condND rfl ?_ ?_ | refine CW.condN rfl ?_ ?_ | refine CW.cond rfl ?_ ?_) <;> intro ht5
 ·
  -- then
  refine CW.sr fun K6 hK6 => ?_
  refine WL.v (Y.load Tryz.underlying74 rfl hB5.mem (sz_historypast _ _) rfl) ?_
  refine WL.store (g := g2) (pre := []) (old := [.slice none 0 0, .map none]) (post := []) (new := paC none 0 0 r) rfl rfl rfl rfl (by kernel_rfl) (by simpa using hB2) (by first | rfl | (simp [digC_length, opC_length]; done) | (simp only [digC_length, opC_length]; omega)) (one2 rfl rfl) (fun w4 hc4 hB4_ => ?_)
  have hz4 := hc4.size; have hE := hE.step hc4 (fun k h => by omega); have hB5 := hB5.chg hc4 (fun h => by omega)
  have hB2 : Blk w4 g2 TPa (paC none 0 0 r) := by simpa using hB4_
  refine WL.a rfl ?_
  refine WL.a rfl ?_
  refine WL.nil (hK6 _ _ ?_); try clear hK6 K6
  refine CW.ret ?_
  have he : rdH (csL l) = (0, 4) := by rw [rdH, if_pos (by omega)]
  exact ⟨_, _, _, rfl, hB2.mem, rfl, rfl, none, 0, r, 0, [], 0, by rw [he]; rfl, RdAt.nil, ⟨RdAt.nil.nds (w := w), (hM.ext hx3).chg hc4 (fun h => by omega), rfl⟩, by omega, fun h => (by rw [he] at h; cases h), hE⟩
 refine CW.skip ?_
 refine hK3 _ _ ?_; try clear hK3 K3
 refine CW.seq fun K7 hK7 => ?_
 refine CW.sr fun K8 hK8 => ?_
 refine WL.m rfl ?_
 refine WL.v (Y.len_slice Tryz.underlying22 rfl) ?_
 refine WL.m rfl ?_
 refine WL.nil (hK8 _ _ ?_); try clear hK8 K8
 refine CW.block ?_
 refine CW.loop (X := Option Addr × Nat × List NdV) (fun x => [(0, .slice A2 m2 c2), (2, .pointer (some ⟨g2, 0, none⟩)), (5, .pointer (some ⟨g5, 0, none⟩)), (16, .slice A2 m2 c2), (17, .int .i64 (m2 : Int)), (18, .int .i64 (x.2.2.length : Int))]) (fun x w0 => x.2.2.length ≤ m2 ∧ RdAt w3 w0 x.1 x.2.1 x.2.2 ∧ ndsL x.2.2 = ndsH ((csL l).take x.2.2.length) ∧ MapAt w0 r pme (placed (idsH ((csL l).take x.2.2.length))) x.2.2.length ∧ HOk ((csL l).take x.2.2.length) ∧ hread (csL l) [] = hread ((csL l).drop x.2.2.length) ((csL l).take x.2.2.length) ∧ Blk w0 g2 TPa [.slice none 0 0, .map none] ∧ Blk w0 g5 TPa (paC x.1 x.2.2.length x.2.1 r) ∧ Ext w w0 ∧ w3.heap.size ≤ w0.heap.size) (fun x => m2 - x.2.2.length) (none, 0, []) Fr.ok ⟨Nat.zero_le _, RdAt.nil, rfl, hM.ext hx3, HOk.nil, rfl, hB2, hB5, hE, Nat.le_refl _⟩ ?_
 intro x w5 hl5
 clear hE hM hB2 hB5
 obtain ⟨A, c, ys⟩ := x
 dsimp only at hl5 ⊢
 obtain ⟨hxm, hQ, his, hM, hok, hrd, hB2, hB5, hE, hz5⟩ := hl5
 have hzE := hE.size
 have hltr := hM.lt
 have hlt2_ := hB2.lt
 have hlt5_ := hB5.lt
 have hQlt := hQ.own.lt
 refine CW.sr fun K9 hK9 => ?_
 refine WL.v (Y.lss rfl rfl) ?_
 refine WL.nil (hK9 _ _ ?_); try clear hK9 K9
 refine CW.seq fun K10 hK10 => ?_
 (first | refine CW.condD rfl ?_ ?_ | refine CW.condND rfl ?_ ?_ | refine CW.condN rfl ?_ ?_ | refine CW.cond rfl ?_ ?_) <;> intro ht11
 ·
  -- then
  refine CW.skip ?_
  refine hK10 _ _ ?_; try clear hK10 K10
  refine CW.seq fun K12 hK12 => ?_
  refine CW.block ?_
  refine CW.seq fun K13 hK13 => ?_
  obtain ⟨cx, hcx⟩ : ∃ cx, l[ys.length]? = some cx := ⟨_, List.getElem?_eq_getElem (by omega)⟩
  have hco := hl.all cx (List.mem_of_getElem? hcx)
  obtain ⟨a2, rfl, hma2⟩ := hlg _ _ hcx
  obtain ⟨cm, pA, pca, oB, ocb⟩ := cx
  have hps := hco.ps
  have hos := hco.os
  dsimp only [CoV.pv, CoV.ov, coC] at hps hos hma2
  have hP : PaAt w5 A c r ys.length ys ((csL l).take ys.length) := ⟨hQ.nds, hM, his⟩
  have htl : ((csL l).take ys.length).length = ys.length := by rw [List.length_take]; omega
  refine CW.region ?_
  refine WL.m rfl ?_
  refine WL.v (Y.indexAddrN Tryz.underlying22 rfl rfl sz0_apiCommit (by omega)) ?_
  refine WL.v (Y.load Tryz.underlying48 rfl (hma2.ext hE) (sz_apiCommit _ _ _ _) rfl) ?_
  refine WL.alloc (hci) (hcz) rfl (by decide) fun g7 w6 hx6 hg7 hB7 => ?_
  have hlt7 := hB7.lt; have hz6 := hx6.size
  have hM7 := hB7.mem; have hz6 := hx6.size; have hE := hE.thenExt hx6; have hB2 := hB2.ext hx6; have hB5 := hB5.ext hx6
  refine WL.a rfl ?_
  refine WL.store (g := g7) (pre := []) (old := comC (.slice none 0 0) ByteArray.empty ByteArray.empty (.slice none 0 0)) (post := []) (new := (comC (.slice pA cm.parents.length pca) cm.author cm.note (.slice oB cm.ops.length ocb))) rfl rfl rfl rfl (sz_apiCommit _ _ _ _) (by simpa using hB7) (by first | rfl | (simp [digC_length, opC_length]; done) | (simp only [digC_length, opC_length]; omega)) (one4 rfl rfl rfl rfl) (fun w7 hc7 hB7_ => ?_)
  have hz7 := hc7.size; have hE := hE.step hc7 (fun k h => by omega); have hB2 := hB2.chg hc7 (fun h => by omega); have hB5 := hB5.chg hc7 (fun h => by omega)
  have hB7 : Blk w7 g7 48 (comC (.slice pA cm.parents.length pca) cm.author cm.note (.slice oB cm.ops.length ocb)) := by simpa using hB7_
  have hx67 : Ext w5 w7 := (hx6.thenExt (Ext.chg Chg.refl)).step hc7 (fun k h => by omega)
  have hP := hP.ext hx67
  have hQ := hQ.ext hx67
  have hM := hM.ext hx67
  refine WL.nil (hK13 _ _ ?_); try clear hK13 K13
  refine CW.sr fun K14 hK14 => ?_
  refine WL.v (Y.load Tryz.underlying74 rfl hB5.mem (sz_historypast _ _) rfl) ?_
  refine WL.m rfl ?_
  refine WL.v (Y.load Tryz.underlying48 rfl hB7.mem (sz_apiCommit _ _ _ _) rfl) ?_
  refine WL.call Tryz.func44 rfl rfl rfl (hwrong_any A c r ys.length ys ((csL l).take ys.length) _ m2 c2 l ⟨cm, pA, pca, oB, ocb⟩ _ hP hok (by omega) (hl.ext hE) (by rw [htl]) (hco.ext hE) (hK.ext hE)) (by simp) ?_; rintro v w8 ⟨rfl, hx8⟩; have hz8 := hx8.size; have hE := hE.thenExt hx8; have hB2 := hB2.ext hx8; have hB5 := hB5.ext hx8; have hB7 := hB7.ext hx8
  refine WL.m rfl ?_
  refine WL.v (Y.extract rfl rfl) ?_
  refine WL.v (Y.extract rfl rfl) ?_
  refine as_apiDigest rfl (by simp) (by decide) fun g8 w9 hx9 hg8 hB8 => ?_
  have hlt8 := hB8.lt; have hz9 := hx9.size
  have hM8 := hB8.mem; have hz9 := hx9.size; have hE := hE.thenExt hx9; have hB2 := hB2.ext hx9; have hB5 := hB5.ext hx9; have hB7 := hB7.ext hx9
  refine WL.a rfl ?_
  refine WL.nil (hK14 _ _ ?_); try clear hK14 K14
  refine CW.seq fun K15 hK15 => ?_
  refine CW.sr fun K16 hK16 => ?_
  refine WL.m rfl ?_
  refine WL.v (Y.neq rfl rfl) ?_
  refine WL.nil (hK16 _ _ ?_); try clear hK16 K16
  (first | refine CW.condD rfl ?_ ?_ | refine CW.condND rfl ?_ ?_ | refine CW.condN rfl ?_ ?_ | refine CW.cond rfl ?_ ?_) <;> intro ht17
  ·
   -- then
   refine CW.seq fun K18 hK18 => ?_
   have hw1 := hread_stop (cs_at hcx) (by assumption)
   rw [← hrd] at hw1
   refine CW.region ?_
   refine WL.v (Y.load Tryz.underlying74 rfl hB5.mem (sz_historypast _ _) rfl) ?_
   refine WL.m rfl ?_
   refine WL.m rfl ?_
   refine WL.store (g := g2) (pre := []) (old := [.slice none 0 0, .map none]) (post := []) (new := paC A ys.length c r) rfl rfl rfl rfl (by kernel_rfl) (by simpa using hB2) (by first | rfl | (simp [digC_length, opC_length]; done) | (simp only [digC_length, opC_length]; omega)) (one2 rfl rfl) (fun w10 hc10 hB10_ => ?_)
   have hz10 := hc10.size; have hE := hE.step hc10 (fun k h => by omega); have hB5 := hB5.chg hc10 (fun h => by omega); have hB7 := hB7.chg hc10 (fun h => by omega); have hB8 := hB8.chg hc10 (fun h => by omega)
   have hB2 : Blk w10 g2 TPa (paC A ys.length c r) := by simpa using hB10_
   have hQ := ((hQ.ext hx8).ext hx9).chg hc10 (fun k hk h => by omega)
   have hM := ((hM.ext hx8).ext hx9).chg hc10 (fun h => by omega)
   refine WL.a rfl ?_
   refine WL.a rfl ?_
   refine WL.nil (hK18 _ _ ?_); try clear hK18 K18
   refine CW.ret ?_
   have he : rdH (csL l) = (ys.length, hErr ((csL l).take ys.length) cm) := by rw [rdH, if_neg (by omega)]; exact hw1
   exact ⟨_, _, _, rfl, hB2.mem, rfl, rfl, A, c, r, ys.length, ys, ys.length, by rw [he]; rfl, hQ.old (by omega), ⟨hQ.nds, hM, his⟩, by omega, fun h => (by rw [he] at h; exact absurd h (by assumption)), hE⟩
  refine CW.skip ?_
  refine hK15 _ _ ?_; try clear hK15 K15
  refine CW.seq fun K19 hK19 => ?_
  have hw0 : hErr ((csL l).take ys.length) cm = 0 := Decidable.not_not.1 (by assumption)
  have hw1 := hErr_ok.1 hw0
  have hp8 := (mayI_ok hw1.may).parents
  refine CW.region ?_
  refine WL.v (Y.fieldAddr fo_historypast1 rfl) ?_
  refine WL.v (Y.load1 Tryz.underlying72 rfl hB5.mem.historypast1 rfl) ?_
  refine WL.v (Y.load Tryz.underlying43 rfl hB8.mem (sz_apiDigest _) rfl) ?_
  refine WL.m rfl ?_
  refine WL.su (Su.mapNew (b := (idD cm, ys.length)) keyDig (fun _ => rfl) Tryz.underlying72 rfl rfl rfl ((hM.ext hx8).ext hx9) (placed_none hw1.new) rfl) fun w11 hR11 => ?_
  obtain ⟨hM, hc11⟩ := hR11
  have hz11 := hc11.size
  have hE := hE.step hc11 (fun k h => by omega)
  have hQ := ((hQ.ext hx8).ext hx9).chg hc11 (fun k hk h => by omega)
  have hB2 := hB2.chg hc11 (fun h => by omega)
  have hB5 := hB5.chg hc11 (fun h => by omega)
  have hB7 := hB7.chg hc11 (fun h => by omega)
  have hB8 := hB8.chg hc11 (fun h => by omega)
  have h8n : ¬ (g8 = g5 ∨ (Value.slice A ys.length c).ownBlock = some g8) := fun h => by
   rcases h with h | h
   ·
    omega
   ·
    have := hQlt _ h; omega
  have h7n : ¬ (g7 = g5 ∨ (Value.slice A ys.length c).ownBlock = some g7) := fun h => by
   rcases h with h | h
   ·
    omega
   ·
    have := hQlt _ h; omega
  refine WL.nil (hK19 _ _ ?_); try clear hK19 K19
  refine CW.tail (X := Option Addr × Nat × List NdV) (fun u => [(0, .slice (some a2) m2 c2), (2, .pointer (some ⟨g2, 0, none⟩)), (5, .pointer (some ⟨g5, 0, none⟩)), (16, .slice (some a2) m2 c2), (17, .int .i64 (m2 : Int)), (18, .int .i64 (ys.length : Int))]) (fun u w0 => RdAt w3 w0 u.1 u.2.1 u.2.2 ∧ u.2.2.length = ys.length + 1 ∧ ndsL u.2.2 = ndsH ((csL l).take (ys.length + 1)) ∧ Blk w0 g5 TPa (paC u.1 u.2.2.length u.2.1 r) ∧ Chg (fun k => k = g5 ∨ (Value.slice A ys.length c).ownBlock = some k) w11 w0) ?_ ?_
  ·
   skip
   refine CW.held (fun wq => Chg (fun k => k = g5 ∨ (Value.slice A ys.length c).ownBlock = some k) w11 wq ) (by kernel_rfl) 11 rfl fun w12 hx12 => ?_
   have hS : Chg (fun k => k = g5 ∨ (Value.slice A ys.length c).ownBlock = some k) w11 w12 := Ext.chg hx12
   have hz12 := hx12.size
   have hE := hE.thenExt hx12
   have hB5 := hB5.ext hx12
   have hQ := hQ.ext hx12
   refine RH.tk 0 hS rfl (fun wq hq => Y.fieldAddr fo_historypast0 rfl) ?_
   refine RH.tk 2 hS rfl (fun wq hq => Y.load Tryz.underlying43 rfl (hB8.chg hq (fun h => h8n h)).mem (sz_apiDigest _) rfl) ?_
   refine RH.tk 3 hS rfl (fun wq hq => Y.fieldAddr fo_apiCommit0 rfl) ?_
   refine RH.tk 4 hS rfl (fun wq hq => Y.load1 Tryz.underlying24 rfl (hB7.chg hq (fun h => h7n h)).mem.com0 rfl) ?_
   refine RH.two 1 5 (by kernel_rfl) ?_ ?_
   ·
    skip
    refine RS.val rfl (Y.load1 Tryz.underlying37 rfl hB5.mem.historypast0 rfl) (by decide) ⟨hS, ?_⟩
    refine RH.one 5 (by kernel_rfl) ?_
    refine RS.st rfl (St.append (news := flatD cm.parents) Tryz.underlying24 Tryz.underlying24 ai_dig rfl rfl Own.nil (Sl.src digC_length (hps.ext hE)) (one_fdH _) (by simp only [List.length_nil]; omega)) (by decide) fun v44 w13 hR13 => ?_
    obtain ⟨hO_a, hc_a, hf_a⟩ := hR13
    have hz_a := hc_a.size
    have hx_a : Ext w12 w13 := hc_a.toExt (fun k _ h => by simp [Value.ownBlock] at h)
    rw [List.nil_append] at hO_a
    obtain ⟨pA2, pn2, pc2, rfl⟩ := hO_a.lens
    have hpn2 : pn2 = cm.parents.length := by
     have := (hO_a.mem _ _ _ rfl).2.2.1
     rw [flat_length digC_length] at this
     omega
    subst hpn2
    have hf_a : ∀ k, (Value.slice pA2 cm.parents.length pc2).ownBlock = some k → w12.heap.size ≤ k := fun k hk => by
     rcases hf_a with h | h
     ·
      rw [h] at hk; simp [Value.ownBlock] at hk
     ·
      exact h k hk
    have hS : Chg (fun k => k = g5 ∨ (Value.slice A ys.length c).ownBlock = some k) w11  w13 := hS.thenExt hx_a
    have hB5 := hB5.ext hx_a
    have hQ := hQ.ext hx_a
    refine ⟨hS, ?_⟩
    refine RH.tk 6 hS rfl (fun wq hq => Y.build rfl (build_ndH _ cm.parents _ _ _ rfl _)) ?_
    refine RH.one 7 (by kernel_rfl) ?_
    refine RS.st rfl (St.buildSlice rfl (bs1_ndH ⟨⟨idD cm, cm.parents⟩, pA2, pc2⟩)) (by decide) fun v46 w14 hR14 => ?_
    obtain ⟨g46, rfl, hg46, hB46, hx_b⟩ := hR14
    have hz_b := hx_b.size
    have hS : Chg (fun k => k = g5 ∨ (Value.slice A ys.length c).ownBlock = some k) w11  w14 := hS.thenExt hx_b
    have hB5 := hB5.ext hx_b
    have hQ := hQ.ext hx_b
    have hO_a := hO_a.ext hx_b
    refine ⟨hS, ?_⟩
    refine RH.one 8 (by kernel_rfl) ?_
    refine RS.st rfl (St.append (m := 1) (news := ndC ⟨⟨idD cm, cm.parents⟩, pA2, pc2⟩) Tryz.underlying37 Tryz.underlying37 ai_ndH rfl rfl hQ.own (Fw.Src.one hB46 (ndC_length _)) one_ndC (by rw [flat_nd]; omega)) (by decide) fun v47 w15 hR15 => ?_
    obtain ⟨hO_c, hc_c, hf_c⟩ := hR15
    have hz_c := hc_c.size
    obtain ⟨A5, n5, c5, rfl⟩ := hO_c.lens
    obtain ⟨hn5, hQ2⟩ := hQ.add (y := ⟨⟨idD cm, cm.parents⟩, pA2, pc2⟩) hO_a (fun k hk => ⟨by have := hf_a k hk; omega, fun e => by have := hf_a k hk; have := hQlt k e; omega⟩) hO_c hc_c hf_c (by omega)
    have hS : Chg (fun k => k = g5 ∨ (Value.slice A ys.length c).ownBlock = some k) w11  w15 := hS.trans hc_c (fun k _ h => .inr h)
    have hB5 := hB5.chg hc_c (fun h => by have := hQ.new _ h; omega)
    refine ⟨hS, ?_⟩
    refine RH.tk 9 hS rfl (fun wq hq => Y.fieldAddr fo_historypast0 rfl) ?_
    refine RH.one 10 (by kernel_rfl) ?_
    refine RS.store rfl (g := g5) (pre := []) (old := [.slice A ys.length c]) (post := [.map (some r)]) (new := [.slice A5 n5 c5]) rfl rfl rfl rfl (by kernel_rfl) hB5 rfl (one1 rfl) (fun w16 hc16 hB16_ => ?_)
    have hS : Chg (fun k => k = g5 ∨ (Value.slice A ys.length c).ownBlock = some k) w11  w16 := hS.trans hc16 (fun k _ h => .inl h)
    have hQ2 := hQ2.chg hc16 (fun k hk h => by omega)
    have hB5 : Blk w16 g5 TPa (paC A5 n5 c5 r) := hB16_
    refine ⟨hS, ?_⟩
    refine RH.done (by kernel_rfl) ?_
    skip
    refine ⟨(A5, c5, ys ++ [⟨⟨idD cm, cm.parents⟩, pA2, pc2⟩]), Fr.ok, hQ2, by simp, ?_, by rw [← hn5]; exact hB5, hS⟩
    show ndsL (ys ++ [_]) = ndsH ((csL l).take (ys.length + 1))
    rw [ndsL, List.map_append, ← ndsL, his, take_succ (cs_at hcx), ndsH, ndsH, List.map_append]; rfl
   ·
    skip
    refine RS.st rfl (St.append (news := flatD cm.parents) Tryz.underlying24 Tryz.underlying24 ai_dig rfl rfl Own.nil (Sl.src digC_length (hps.ext hE)) (one_fdH _) (by simp only [List.length_nil]; omega)) (by decide) fun v44 w17 hR17 => ?_
    obtain ⟨hO_a, hc_a, hf_a⟩ := hR17
    have hz_a := hc_a.size
    have hx_a : Ext w12 w17 := hc_a.toExt (fun k _ h => by simp [Value.ownBlock] at h)
    rw [List.nil_append] at hO_a
    obtain ⟨pA2, pn2, pc2, rfl⟩ := hO_a.lens
    have hpn2 : pn2 = cm.parents.length := by
     have := (hO_a.mem _ _ _ rfl).2.2.1
     rw [flat_length digC_length] at this
     omega
    subst hpn2
    have hf_a : ∀ k, (Value.slice pA2 cm.parents.length pc2).ownBlock = some k → w12.heap.size ≤ k := fun k hk => by
     rcases hf_a with h | h
     ·
      rw [h] at hk; simp [Value.ownBlock] at hk
     ·
      exact h k hk
    have hS : Chg (fun k => k = g5 ∨ (Value.slice A ys.length c).ownBlock = some k) w11  w17 := hS.thenExt hx_a
    have hB5 := hB5.ext hx_a
    have hQ := hQ.ext hx_a
    refine ⟨hS, ?_⟩
    refine RH.tk 6 hS rfl (fun wq hq => Y.build rfl (build_ndH _ cm.parents _ _ _ rfl _)) ?_
    refine RH.two 1 7 (by kernel_rfl) ?_ ?_
    ·
     skip
     refine RS.val rfl (Y.load1 Tryz.underlying37 rfl hB5.mem.historypast0 rfl) (by decide) ⟨hS, ?_⟩
     refine RH.one 7 (by kernel_rfl) ?_
     refine RS.st rfl (St.buildSlice rfl (bs1_ndH ⟨⟨idD cm, cm.parents⟩, pA2, pc2⟩)) (by decide) fun v46 w18 hR18 => ?_
     obtain ⟨g46, rfl, hg46, hB46, hx_b⟩ := hR18
     have hz_b := hx_b.size
     have hS : Chg (fun k => k = g5 ∨ (Value.slice A ys.length c).ownBlock = some k) w11  w18 := hS.thenExt hx_b
     have hB5 := hB5.ext hx_b
     have hQ := hQ.ext hx_b
     have hO_a := hO_a.ext hx_b
     refine ⟨hS, ?_⟩
     refine RH.one 8 (by kernel_rfl) ?_
     refine RS.st rfl (St.append (m := 1) (news := ndC ⟨⟨idD cm, cm.parents⟩, pA2, pc2⟩) Tryz.underlying37 Tryz.underlying37 ai_ndH rfl rfl hQ.own (Fw.Src.one hB46 (ndC_length _)) one_ndC (by rw [flat_nd]; omega)) (by decide) fun v47 w19 hR19 => ?_
     obtain ⟨hO_c, hc_c, hf_c⟩ := hR19
     have hz_c := hc_c.size
     obtain ⟨A5, n5, c5, rfl⟩ := hO_c.lens
     obtain ⟨hn5, hQ2⟩ := hQ.add (y := ⟨⟨idD cm, cm.parents⟩, pA2, pc2⟩) hO_a (fun k hk => ⟨by have := hf_a k hk; omega, fun e => by have := hf_a k hk; have := hQlt k e; omega⟩) hO_c hc_c hf_c (by omega)
     have hS : Chg (fun k => k = g5 ∨ (Value.slice A ys.length c).ownBlock = some k) w11  w19 := hS.trans hc_c (fun k _ h => .inr h)
     have hB5 := hB5.chg hc_c (fun h => by have := hQ.new _ h; omega)
     refine ⟨hS, ?_⟩
     refine RH.tk 9 hS rfl (fun wq hq => Y.fieldAddr fo_historypast0 rfl) ?_
     refine RH.one 10 (by kernel_rfl) ?_
     refine RS.store rfl (g := g5) (pre := []) (old := [.slice A ys.length c]) (post := [.map (some r)]) (new := [.slice A5 n5 c5]) rfl rfl rfl rfl (by kernel_rfl) hB5 rfl (one1 rfl) (fun w20 hc20 hB20_ => ?_)
     have hS : Chg (fun k => k = g5 ∨ (Value.slice A ys.length c).ownBlock = some k) w11  w20 := hS.trans hc20 (fun k _ h => .inl h)
     have hQ2 := hQ2.chg hc20 (fun k hk h => by omega)
     have hB5 : Blk w20 g5 TPa (paC A5 n5 c5 r) := hB20_
     refine ⟨hS, ?_⟩
     refine RH.done (by kernel_rfl) ?_
     skip
     refine ⟨(A5, c5, ys ++ [⟨⟨idD cm, cm.parents⟩, pA2, pc2⟩]), Fr.ok, hQ2, by simp, ?_, by rw [← hn5]; exact hB5, hS⟩
     show ndsL (ys ++ [_]) = ndsH ((csL l).take (ys.length + 1))
     rw [ndsL, List.map_append, ← ndsL, his, take_succ (cs_at hcx), ndsH, ndsH, List.map_append]; rfl
    ·
     skip
     refine RS.st rfl (St.buildSlice rfl (bs1_ndH ⟨⟨idD cm, cm.parents⟩, pA2, pc2⟩)) (by decide) fun v46 w21 hR21 => ?_
     obtain ⟨g46, rfl, hg46, hB46, hx_b⟩ := hR21
     have hz_b := hx_b.size
     have hS : Chg (fun k => k = g5 ∨ (Value.slice A ys.length c).ownBlock = some k) w11  w21 := hS.thenExt hx_b
     have hB5 := hB5.ext hx_b
     have hQ := hQ.ext hx_b
     have hO_a := hO_a.ext hx_b
     refine ⟨hS, ?_⟩
     refine RH.one 1 (by kernel_rfl) ?_
     refine RS.val rfl (Y.load1 Tryz.underlying37 rfl hB5.mem.historypast0 rfl) (by decide) ⟨hS, ?_⟩
     refine RH.one 8 (by kernel_rfl) ?_
     refine RS.st rfl (St.append (m := 1) (news := ndC ⟨⟨idD cm, cm.parents⟩, pA2, pc2⟩) Tryz.underlying37 Tryz.underlying37 ai_ndH rfl rfl hQ.own (Fw.Src.one hB46 (ndC_length _)) one_ndC (by rw [flat_nd]; omega)) (by decide) fun v47 w22 hR22 => ?_
     obtain ⟨hO_c, hc_c, hf_c⟩ := hR22
     have hz_c := hc_c.size
     obtain ⟨A5, n5, c5, rfl⟩ := hO_c.lens
     obtain ⟨hn5, hQ2⟩ := hQ.add (y := ⟨⟨idD cm, cm.parents⟩, pA2, pc2⟩) hO_a (fun k hk => ⟨by have := hf_a k hk; omega, fun e => by have := hf_a k hk; have := hQlt k e; omega⟩) hO_c hc_c hf_c (by omega)
     have hS : Chg (fun k => k = g5 ∨ (Value.slice A ys.length c).ownBlock = some k) w11  w22 := hS.trans hc_c (fun k _ h => .inr h)
     have hB5 := hB5.chg hc_c (fun h => by have := hQ.new _ h; omega)
     refine ⟨hS, ?_⟩
     refine RH.tk 9 hS rfl (fun wq hq => Y.fieldAddr fo_historypast0 rfl) ?_
     refine RH.one 10 (by kernel_rfl) ?_
     refine RS.store rfl (g := g5) (pre := []) (old := [.slice A ys.length c]) (post := [.map (some r)]) (new := [.slice A5 n5 c5]) rfl rfl rfl rfl (by kernel_rfl) hB5 rfl (one1 rfl) (fun w23 hc23 hB23_ => ?_)
     have hS : Chg (fun k => k = g5 ∨ (Value.slice A ys.length c).ownBlock = some k) w11  w23 := hS.trans hc23 (fun k _ h => .inl h)
     have hQ2 := hQ2.chg hc23 (fun k hk h => by omega)
     have hB5 : Blk w23 g5 TPa (paC A5 n5 c5 r) := hB23_
     refine ⟨hS, ?_⟩
     refine RH.done (by kernel_rfl) ?_
     skip
     refine ⟨(A5, c5, ys ++ [⟨⟨idD cm, cm.parents⟩, pA2, pc2⟩]), Fr.ok, hQ2, by simp, ?_, by rw [← hn5]; exact hB5, hS⟩
     show ndsL (ys ++ [_]) = ndsH ((csL l).take (ys.length + 1))
     rw [ndsL, List.map_append, ← ndsL, his, take_succ (cs_at hcx), ndsH, ndsH, List.map_append]; rfl
  rintro u w24 f24 hj24 hle24
  obtain ⟨A5, c5, ys2⟩ := u
  dsimp only at hj24 ⊢
  obtain ⟨hQ2, hyl, his2, hB5, hS⟩ := hj24
  have hE := hE.step hS (fun k h => by rcases h with h | h; omega; (have := hQ.new k h; omega))
  have hz24 := hS.size
  have hB2 := hB2.chg hS (fun h => by rcases h with h | h; omega; (have := hQ.new _ h; omega))
  have hM := hM.chg hS (fun h => by rcases h with h | h; omega; (have := hQ.new _ h; omega))
  have hnn : ((ys.length : Int) + 1) = ((ys2.length : Nat) : Int) := by omega
  refine hK12 _ _ ?_; try clear hK12 K12
  refine CW.weaken hle24 ?_
  refine CW.region ?_
  refine WL.v (Y.add rfl rfl ⟨by omega, by omega⟩) ?_
  refine WL.m rfl ?_
  refine WL.nil ?_
  rw [hnn]
  refine ⟨(A5, c5, ys2), by show m2 - ys2.length < m2 - ys.length; omega, Fr.ok, by show ys2.length ≤ m2; omega, hQ2, by rw [hyl]; exact his2, ?_, ?_, ?_, hB2, hB5, hE, by omega⟩
  ·
   show MapAt _ r pme (placed (idsH ((csL l).take ys2.length))) ys2.length
   rw [hyl, take_succ (cs_at hcx), idsH, List.map_append, List.map_cons, List.map_nil, placed_app]
   have e : (List.map idD (List.take ys.length (csL l))).length = ys.length := by rw [List.length_map]; exact htl
   rw [e]; exact hM
  ·
   show HOk ((csL l).take ys2.length)
   rw [hyl, take_succ (cs_at hcx)]
   exact hok.snoc hw1
  ·
   show hread (csL l) [] = _
   rw [hrd, hyl]
   exact hread_step (cs_at hcx) hw0
 refine CW.exit ?_
 refine hK7 _ _ ?_; try clear hK7 K7
 refine CW.sr fun K20 hK20 => ?_
 refine WL.v (Y.load Tryz.underlying74 rfl hB5.mem (sz_historypast _ _) rfl) ?_
 refine WL.store (g := g2) (pre := []) (old := [.slice none 0 0, .map none]) (post := []) (new := paC A ys.length c r) rfl rfl rfl rfl (by kernel_rfl) (by simpa using hB2) (by first | rfl | (simp [digC_length, opC_length]; done) | (simp only [digC_length, opC_length]; omega)) (one2 rfl rfl) (fun w25 hc25 hB25_ => ?_)
 have hz25 := hc25.size; have hE := hE.step hc25 (fun k h => by omega); have hB5 := hB5.chg hc25 (fun h => by omega)
 have hB2 : Blk w25 g2 TPa (paC A ys.length c r) := by simpa using hB25_
 have hQ := hQ.chg hc25 (fun k hk h => by omega)
 have hM := hM.chg hc25 (fun h => by omega)
 refine WL.a rfl ?_
 refine WL.a rfl ?_
 refine WL.nil (hK20 _ _ ?_); try clear hK20 K20
 refine CW.ret ?_
 have hym : ys.length = m2 := by omega
 have he : rdH (csL l) = (0, 0) := by
  rw [rdH, if_neg (by omega), hrd, List.drop_of_length_le (by omega)]; rfl
 exact ⟨_, _, _, rfl, hB2.mem, rfl, rfl, A, c, r, ys.length, ys, ys.length, by rw [he]; rfl, hQ.old (by omega), ⟨hQ.nds, hM, his⟩, by omega, fun _ => by omega, hE⟩
theorem hcheck_any (u : Value) (l : List CoV) (w : World) (hl : Hcs w u l) (hK : Mem w ⟨0, 0, none⟩ (wds keysL)) : Calls Tryz.prog 12 #[u] w (Ret fun v w' => v = .tuple #[.int .i64 ((rdH (csL l)).1 : Int), .int .i64 (rdH (csL l)).2] ∧ Ext w w') := by
 refine calls_of_CW 15 [2, 3] [(0, u)] Tryz.func12 rfl rfl rfl (by simp) args1 ?_
 have hE : Ext w w := Chg.refl
 refine CW.sr fun K1 hK1 => ?_
 refine WL.a rfl ?_
 refine WL.a rfl ?_
 refine WL.nil (hK1 _ _ ?_); try clear hK1 K1
 refine CW.sr fun K2 hK2 => ?_
 refine WL.m rfl ?_
 refine WL.call Tryz.func25 rfl rfl rfl (hread_any u l _ hl hK) (by simp) ?_; rintro v9 w1 hR1
 obtain ⟨A, c, r, cl, ys, k, rfl, hQ, hP, hr, hk, hx1⟩ := hR1
 have hz1 := hx1.size
 have hE := hE.thenExt hx1
 refine WL.m rfl ?_
 refine WL.v (Y.extract rfl rfl) ?_
 refine WL.v (Y.extract rfl rfl) ?_
 refine WL.v (Y.extract rfl rfl) ?_
 refine as_historypast rfl (by simp) (by decide) fun g4 w2 hx2 hg4 hB4 => ?_
 have hlt4 := hB4.lt; have hz2 := hx2.size
 have hM4 := hB4.mem; have hz2 := hx2.size; have hE := hE.thenExt hx2
 refine WL.a rfl ?_
 refine WL.a rfl ?_
 refine WL.nil (hK2 _ _ ?_); try clear hK2 K2
 refine CW.sr fun K3 hK3 => ?_
 refine WL.m rfl ?_
 refine WL.m rfl ?_
 refine WL.a rfl ?_
 refine WL.a rfl ?_
 refine WL.nil (hK3 _ _ ?_); try clear hK3 K3
 refine CW.ret ⟨_, rfl, ?_⟩
 exact ⟨rfl, hE⟩
theorem hnodes_any (u : Value) (l : List CoV) (w : World) (hl : Hcs w u l) (hK : Mem w ⟨0, 0, none⟩ (wds keysL)) : Calls Tryz.prog 13 #[u] w (Ret fun v w' => ∃ A c ys, v = .tuple #[.slice A ys.length c, .int .i64 (rdH (csL l)).2] ∧ RdAt w w' A c ys ∧ ndsL ys = (if (rdH (csL l)).2 = 0 then ndsH (csL l) else []) ∧ Ext w w') := by
 refine calls_of_CW 18 [2, 3] [(0, u)] Tryz.func13 rfl rfl rfl (by simp) args1 ?_
 have hE : Ext w w := Chg.refl
 refine CW.sr fun K1 hK1 => ?_
 refine WL.a rfl ?_
 refine WL.a rfl ?_
 refine WL.nil (hK1 _ _ ?_); try clear hK1 K1
 refine CW.sr fun K2 hK2 => ?_
 refine WL.m rfl ?_
 refine WL.call Tryz.func25 rfl rfl rfl (hread_any u l _ hl hK) (by simp) ?_; rintro v9 w1 hR1
 obtain ⟨A, c, r, cl, ys, k, rfl, hQ, hP, hr, hk, hx1⟩ := hR1
 have hz1 := hx1.size
 have hE := hE.thenExt hx1
 refine WL.m rfl ?_
 refine WL.v (Y.extract rfl rfl) ?_
 refine WL.v (Y.extract rfl rfl) ?_
 refine WL.v (Y.extract rfl rfl) ?_
 refine as_historypast rfl (by simp) (by decide) fun g4 w2 hx2 hg4 hB4 => ?_
 have hlt4 := hB4.lt; have hz2 := hx2.size
 have hM4 := hB4.mem; have hz2 := hx2.size; have hE := hE.thenExt hx2
 refine WL.a rfl ?_
 refine WL.a rfl ?_
 refine WL.nil (hK2 _ _ ?_); try clear hK2 K2
 refine CW.seq fun K3 hK3 => ?_
 refine CW.sr fun K4 hK4 => ?_
 refine WL.m rfl ?_
 refine WL.v (Y.neq rfl rfl) ?_
 refine WL.nil (hK4 _ _ ?_); try clear hK4 K4
 (first | refine CW.condD rfl ?_ ?_ | refine CW.condND rfl ?_ ?_ | refine CW.condN rfl ?_ ?_ | refine CW.cond rfl ?_ ?_) <;> intro ht5
 ·
  -- then
  refine CW.sr fun K6 hK6 => ?_
  refine WL.m rfl ?_
  refine WL.a rfl ?_
  refine WL.a rfl ?_
  refine WL.nil (hK6 _ _ ?_); try clear hK6 K6
  refine CW.ret ⟨_, rfl, ?_⟩
  exact ⟨none, 0, [], rfl, RdAt.nil, by rw [if_neg (by assumption)]; rfl, hE⟩
 refine CW.skip ?_
 refine hK3 _ _ ?_; try clear hK3 K3
 refine CW.sr fun K7 hK7 => ?_
 refine WL.v (Y.fieldAddr fo_historypast0 rfl) ?_
 refine WL.v (Y.load1 Tryz.underlying37 rfl hB4.mem.historypast0 rfl) ?_
 refine WL.a rfl ?_
 refine WL.a rfl ?_
 refine WL.nil (hK7 _ _ ?_); try clear hK7 K7
 refine CW.ret ⟨_, rfl, ?_⟩
 have h0 : (rdH (csL l)).2 = 0 := Decidable.not_not.1 (by assumption)
 exact ⟨A, c, ys, by rw [h0], hQ.ext hx2, by rw [if_pos h0, hP.is, hk h0, List.take_of_length_le (by rw [List.length_map]; exact Nat.le_refl _)], hE⟩
end Go.Proofs.YtjbeooimhoilmaaGreatDoor
/- The plain laws of histories: texts and merges of versions; a lattice; what comes behind; another order. No condition; no program. -/
namespace Go.Proofs.YtjbeooimhoilmaaGreatDoor
open Go.Fw Go.Pl Go.Fu
section
open Classical
noncomputable def trK (l : List ComD) (S : Dig → Prop) : Nat → Tr
 | 0 => Tr.new
 | k + 1 => match l[k]? with
  | some c => if S (idD c) then addT (trK l S k) (idD c) c.ops else trK l S k
  | none => trK l S k
theorem trK_yes {l : List ComD} {S : Dig → Prop} {k : Nat} {c : ComD} (hc : l[k]? = some c) (h : S (idD c)) : trK l S (k + 1) = addT (trK l S k) (idD c) c.ops := by rw [trK, hc]; simp only [if_pos h]
theorem trK_no {l : List ComD} {S : Dig → Prop} {k : Nat} {c : ComD} (hc : l[k]? = some c) (h : ¬ S (idD c)) : trK l S (k + 1) = trK l S k := by rw [trK, hc]; simp only [if_neg h]
end
theorem trK_ok {l : List ComD} (hk : HOk l) (hl : l.length ≤ 200) {S : Dig → Prop} (hS : Closed l S) : ∀ {k : Nat}, k ≤ l.length → TreeOk (selS S (l.take k)) (trK l S k)
 | 0, _ => by rw [List.take_zero]; exact treeOk_new
 | k + 1, h => by
  obtain ⟨c, hc⟩ : ∃ c, l[k]? = some c := ⟨_, List.getElem?_eq_getElem (by omega)⟩
  have ih := trK_ok hk hl hS (k := k) (by omega)
  by_cases hs : S (idD c)
  ·
   rw [trK_yes hc hs]; exact sel_step hk hl hS hc hs ih
  ·
   rw [trK_no hc hs, sel_no hc hs]; exact ih
noncomputable def trH (l : List ComD) (ids : List Dig) : Tr := trK l (Under (ndsH l) ids) l.length
theorem trH_ok {l : List ComD} (hk : HOk l) (hl : l.length ≤ 200) (ids : List Dig) : TreeOk (selS (Under (ndsH l) ids) l) (trH l ids) := by
 have := trK_ok hk hl (closed_under l ids) (Nat.le_refl _)
 rwa [List.take_length] at this
open Classical in
noncomputable def txE (l : List ComD) (ids : List Dig) : Int := if (rdH l).2 ≠ 0 then (rdH l).2 else if ∃ d ∈ ids, d ∉ idsH l then 5 else 0
noncomputable def txL (l : List ComD) (ids : List Dig) : List UInt8 := if txE l ids = 0 then textE (trH l ids).e else []
open Classical in
noncomputable def mgE (l : List ComD) (a b : List Dig) : Int := if txE l (a ++ b) ≠ 0 then txE l (a ++ b) else if 8 < (hdL (ndsH l) (a ++ b)).length then 4 else 0
noncomputable def mgL (l : List ComD) (a b : List Dig) : List Dig := if mgE l a b = 0 then hdL (ndsH l) (a ++ b) else []
theorem txE_ok {l : List ComD} {ids : List Dig} : txE l ids = 0 ↔ l.length ≤ 200 ∧ HOk l ∧ ∀ d ∈ ids, d ∈ idsH l := by
 unfold txE
 constructor
 ·
  intro h
  split at h
  ·
   rename_i h1; exact absurd h h1
  split at h
  ·
   omega
  rename_i h1 h2
  obtain ⟨h3, h4⟩ := rdH_ok.1 (Decidable.not_not.1 h1)
  exact ⟨h3, h4, fun d hd => Classical.byContradiction fun hn => h2 ⟨d, hd, hn⟩⟩
 ·
  rintro ⟨h1, h2, h3⟩
  rw [if_neg (by rw [rdH_ok.2 ⟨h1, h2⟩]; decide), if_neg (by rintro ⟨d, hd, hn⟩; exact hn (h3 d hd))]
theorem mgE_ok {l : List ComD} {a b : List Dig} : mgE l a b = 0 ↔ txE l (a ++ b) = 0 ∧ (hdL (ndsH l) (a ++ b)).length ≤ 8 := by
 unfold mgE
 constructor
 ·
  intro h
  split at h
  ·
   rename_i h1; exact absurd h h1
  split at h
  ·
   omega
  rename_i h1 h2
  exact ⟨Decidable.not_not.1 h1, by omega⟩
 ·
  rintro ⟨h1, h2⟩
  rw [if_neg (by omega), if_neg (by omega)]
theorem mgE_tx {l : List ComD} {a b : List Dig} (h : txE l (a ++ b) = 0) : mgE l a b = if 8 < (hdL (ndsH l) (a ++ b)).length then 4 else 0 := by
 unfold mgE; rw [if_neg (by omega)]
theorem hin_of {l : List ComD} {ids : List Dig} (h : txE l ids = 0) : ∀ d ∈ ids, d ∈ idsL (ndsH l) := fun d hd => by rw [ids_nds]; exact (txE_ok.1 h).2.2 d hd
theorem nds_ok {l : List ComD} {ids : List Dig} (h : txE l ids = 0) : (readE (ndsH l)).2 = 0 := (txE_ok.1 h).2.1.nodes (txE_ok.1 h).1
theorem stays {l : List ComD} {m : ComD} (h : (rdH (l ++ [m])).2 = 0) (ids : List Dig) : (rdH l).2 = 0 ∧ ((txE l ids = txE (l ++ [m]) ids ∧ txL l ids = txL (l ++ [m]) ids) ∨ txE l ids = 5) := by
 obtain ⟨h1, h2⟩ := rdH_ok.1 h
 rw [List.length_append, List.length_singleton] at h1
 have hl : HOk l := by
  have := h2.take l.length
  rwa [List.take_append_of_le_length (Nat.le_refl _), List.take_length] at this
 have hr : (rdH l).2 = 0 := rdH_ok.2 ⟨by omega, hl⟩
 refine ⟨hr, ?_⟩
 by_cases hin : ∀ d ∈ ids, d ∈ idsH l
 ·
  left
  have t1 : txE l ids = 0 := txE_ok.2 ⟨by omega, hl, hin⟩
  have t2 : txE (l ++ [m]) ids = 0 := txE_ok.2 ⟨by rw [List.length_append, List.length_singleton]; omega, h2, fun d hd => by rw [idsH, List.map_append]; exact List.mem_append_left _ (hin d hd)⟩
  refine ⟨by rw [t1, t2], ?_⟩
  have g : Grow (ndsH l) (ndsH (l ++ [m])) := by
   have h3 := nds_ok t2
   have e : ndsH (l ++ [m]) = ndsH l ++ [ndH m] := List.map_append
   rw [e] at h3 ⊢
   exact more_grow h3
  have hu : Under (ndsH (l ++ [m])) ids = Under (ndsH l) ids := by
   funext d
   exact propext (g.under (hin_of t1))
  rw [txL, txL, if_pos t1, if_pos t2]
  have e : selS (Under (ndsH (l ++ [m])) ids) (l ++ [m]) = selS (Under (ndsH l) ids) l := by
   rw [hu, selS, selS, List.filter_append, List.map_append]
   have hno : ¬ Under (ndsH l) ids (idD m) := fun hu => by
    have h3 := under_ids (nds_ok t1) (hin_of t1) hu
    rw [ids_nds] at h3
    have h4 := (h2 l.length m (by simp)).new
    rw [List.take_append_of_le_length (Nat.le_refl _), List.take_length] at h4
    exact h4 h3
   simp [hno]
  exact (same_shown (trH_ok hl (by omega) ids) (trH_ok h2 (by rw [List.length_append, List.length_singleton]; omega) ids) fun c => by rw [e]).2.1
 ·
  right
  unfold txE
  rw [hr, if_neg (by decide), if_pos]
  exact Classical.byContradiction fun hn => hin fun d hd => Classical.byContradiction fun hd2 => hn ⟨d, hd, hd2⟩
end Go.Proofs.YtjbeooimhoilmaaGreatDoor
