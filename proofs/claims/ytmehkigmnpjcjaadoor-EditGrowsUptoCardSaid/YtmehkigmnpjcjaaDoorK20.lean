/- Parts of a proof: what its last text leans on. No condition. -/
import Derived.Test.YtmehkigmnpjcjaaDoorK08
import Derived.Test.YtmehkigmnpjcjaaDoorK11
import Derived.Test.YtmehkigmnpjcjaaDoorK13
import Derived.Test.YtmehkigmnpjcjaaDoorK15
import Derived.Test.YtmehkigmnpjcjaaDoorK16
import Derived.Test.YtmehkigmnpjcjaaDoorK18
import Derived.Test.YtmehkigmnpjcjaaDoorK19
set_option linter.unusedSimpArgs false
set_option linter.unusedVariables false
/- A version's tree, its text; two versions merged: Tree, Text, Merge, walked. No condition but the table of digest.keys. -/
namespace Go.Proofs.YtmehkigmnpjcjaaDoor
open Go.RowKit Go.Fw Go.Pl Go.Sort Go.Fu
theorem mark_at {P : List ComD} (hk : HOk P) (hl : P.length ≤ 200) {ids : List Dig} (hin : ∀ d ∈ ids, d ∈ idsH P) {k : Nat} {c : ComD} (hc : P[k]? = some c) {cu : Bool} (h : (markF (ndsH P) ids)[k]? = some cu) : cu = true ↔ Under (ndsH P) ids (idD c) := by
 have hn := hk.nodes hl
 have h1 := ixN_at hn (nds_at hc)
 have h2 : bitAt (markF (ndsH P) ids) (ndsH P) (idD c) = true ↔ _ := markF_bit hn (fun d hd => by rw [ids_nds]; exact hin d hd) (by rw [ids_nds]; exact List.mem_map.2 ⟨c, List.mem_of_getElem? hc, rfl⟩)
 rw [← h2, bit_iff]
 simp only [ndH] at h1
 rw [h1, h]
 simp
theorem wrongQ_tx {P : List ComD} (h : (rdH P).2 = 0) {ids : List Dig} : wrongQ (ndsH P) ids = txE P ids := by
 obtain ⟨h1, h2⟩ := rdH_ok.1 h
 unfold wrongQ txE
 have h3 : ¬ (rdH P).2 ≠ 0 := fun hh => hh h
 rw [if_neg (by rw [h2.nodes h1]; decide), ids_nds, if_neg h3]
structure TrAt (w w' : World) (g rb ra : Nat) (ns : List Nn) (T : Tr) : Prop where
 ft : FtAt w' g rb ra T.ad ns
 els : Fw.els ns = T.e
 new : ∀ q, Fp g rb ra ns q → w.heap.size ≤ q
theorem TrAt.ext {w w' w2 : World} {g rb ra : Nat} {ns : List Nn} {T : Tr} (h : TrAt w w' g rb ra ns T) (hc : Ext w' w2) : TrAt w w2 g rb ra ns T := ⟨h.ft.ext hc, h.els, h.new⟩
theorem TrAt.len {w w' : World} {g rb ra : Nat} {ns : List Nn} {T : Tr} (h : TrAt w w' g rb ra ns T) : T.e.length = ns.length := by rw [← h.els]; exact List.length_map _
set_option maxRecDepth 100000 in
set_option maxHeartbeats 4000000 in
theorem htree_any (u v0 : Value) (l : List CoV) (ids : List Dig) (w : World) (hl : Hcs w u l) (hd : Sl w digC 32 v0 ids) (hK : Mem w ⟨0, 0, none⟩ (wds keysL)) : Calls Tryd.prog 16 #[u, v0] w (Ret fun v w' => ∃ p, v = .tuple #[.pointer p, .int .i64 (txE (csL l) ids)] ∧ (txE (csL l) ids ≠ 0 → p = none) ∧ (txE (csL l) ids = 0 → ∃ g rb ra ns, p = some ⟨g, 0, none⟩ ∧ TrAt w w' g rb ra ns (trH (csL l) ids)) ∧ Ext w w') := by
 obtain ⟨A2, m2, c2, rfl, hlm, hmc, hcm, hlg⟩ := id hl.sl
 unfold maxLen at hcm
 obtain ⟨A1, m1, c1, rfl, hdm, hdc, hdx, hdg⟩ := id hd
 unfold maxLen at hdx
 obtain ⟨ci_, hci, hcz, hcs⟩ := info_apiCommitH
 have hcl : (csL l).length = m2 := by rw [List.length_map]; exact hlm
 refine calls_of_CW 75 [4, 5] [(0, .slice A2 m2 c2), (1, .slice A1 m1 c1)] Tryd.func16 rfl rfl rfl (by simp) args2 ?_
 have hE : Ext w w := Chg.refl
 refine CW.sr fun K1 hK1 => ?_
 refine WL.a rfl ?_
 refine WL.a rfl ?_
 refine WL.nil (hK1 _ _ ?_); try clear hK1
 refine CW.sr fun K2 hK2 => ?_
 refine WL.m rfl ?_
 refine WL.call Tryd.func23 rfl rfl rfl (hread_any _ l _ hl hK) (by simp) ?_; rintro v20 w1 hR1
 obtain ⟨A, c, r, cl, ys, kk, rfl, hQ, hP, hr, hkk, hx1⟩ := hR1
 have hz1 := hx1.size
 have hE0 := hx1
 clear hE
 have hE : Ext w1 w1 := Chg.refl
 refine WL.m rfl ?_
 refine WL.v (Y.extract rfl rfl) ?_
 refine WL.v (Y.extract rfl rfl) ?_
 refine WL.v (Y.extract rfl rfl) ?_
 refine as_historypast rfl (by simp) de_ fun g6 w2 hx2 hg6 hB6 => ?_
 have hlt6 := hB6.lt; have hz2 := hx2.size
 have hM6 := hB6.mem; have hz2 := hx2.size; have hE := hE.thenExt hx2
 refine WL.a rfl ?_
 refine WL.a rfl ?_
 refine WL.nil (hK2 _ _ ?_); try clear hK2
 refine CW.seq fun K3 hK3 => ?_
 refine CW.sr fun K4 hK4 => ?_
 refine WL.m rfl ?_
 refine WL.v (Y.neq rfl rfl) ?_
 refine WL.nil (hK4 _ _ ?_); try clear hK4
 (first | refine cd_ rfl ?_ ?_ | refine ce_ rfl ?_ ?_ | refine cn_ rfl ?_ ?_ | refine cb_ rfl ?_ ?_) <;> intro ht5
 ·
  -- then
  refine CW.sr fun K6 hK6 => ?_
  refine WL.m rfl ?_
  refine WL.a rfl ?_
  refine WL.a rfl ?_
  refine WL.nil (hK6 _ _ ?_); try clear hK6
  refine CW.ret ⟨_, rfl, ?_⟩
  have he : txE (csL l) ids = (rdH (csL l)).2 := by rw [txE, if_pos (by assumption)]
  exact ⟨none, by rw [he]; rfl, fun _ => rfl, fun h => absurd (he.symm.trans h) (by assumption), hE0.thenExt hE⟩
 refine CW.skip ?_
 refine hK3 _ _ ?_; try clear hK3
 refine CW.seq fun K7 hK7 => ?_
 refine CW.seq fun K8 hK8 => ?_
 have h0 : (rdH (csL l)).2 = 0 := Decidable.not_not.1 (by assumption)
 obtain ⟨hl200, hok⟩ := rdH_ok.1 h0
 have hP : PaAt w1 A c r cl ys (csL l) := by
  rw [hkk h0, List.take_of_length_le (by rw [List.length_map]; exact Nat.le_refl _)] at hP
  exact hP
 have hyl := hP.len
 refine CW.region ?_
 refine WL.m rfl ?_
 refine WL.v (Y.len_slice Tryd.underlying25 rfl) ?_
 refine WL.m rfl ?_
 refine WL.nil (hK8 _ _ ?_); try clear hK8
 refine CW.block ?_
 refine CW.loop (X := Nat) (fun x => [(0, .slice A2 m2 c2), (6, .pointer (some ⟨g6, 0, none⟩)), (1, .slice A1 m1 c1), (27, .slice A1 m1 c1), (28, .int .i64 (m1 : Int)), (29, .int .i64 (x : Int))]) (fun x w0 => x ≤ m1 ∧ (∀ (i : Nat) (d : Dig), i < x → ids[i]? = some d → d ∈ idsH (csL l)) ∧ Ext w1 w0 ∧ Blk w0 g6 TPa (paC A ys.length c r) ∧ w2.heap.size ≤ w0.heap.size) (fun x => m1 - x) 0 Fr.ok ⟨Nat.zero_le _, (fun i d h => by omega), hE, hB6, Nat.le_refl _⟩ ?_
 intro x w3 hl3
 clear hE hB6
 obtain ⟨hxm, hpi, hE, hB6, hz3⟩ := hl3
 have hzE := hE.size
 refine CW.sr fun K9 hK9 => ?_
 refine WL.v (Y.lss rfl rfl) ?_
 refine WL.nil (hK9 _ _ ?_); try clear hK9
 refine CW.seq fun K10 hK10 => ?_
 (first | refine cd_ rfl ?_ ?_ | refine ce_ rfl ?_ ?_ | refine cn_ rfl ?_ ?_ | refine cb_ rfl ?_ ?_) <;> intro ht11
 ·
  -- then
  refine CW.skip ?_
  refine hK10 _ _ ?_; try clear hK10
  refine CW.seq fun K12 hK12 => ?_
  refine CW.block ?_
  refine CW.seq fun K13 hK13 => ?_
  obtain ⟨d, hdd⟩ : ∃ d, ids[x]? = some d := ⟨_, List.getElem?_eq_getElem om_⟩
  obtain ⟨a, rfl, hma⟩ := hdg _ _ hdd
  refine CW.region ?_
  refine WL.v (Y.indexAddrN Tryd.underlying25 rfl rfl sz0_apiDigest om_) ?_
  refine WL.v (Y.load Tryd.underlying36 rfl (hma.ext (hE0.thenExt hE)) (sz_apiDigest _) rfl) ?_
  refine as_apiDigest rfl (by simp) de_ fun g10 w4 hx4 hg10 hB10 => ?_
  have hlt10 := hB10.lt; have hz4 := hx4.size
  have hM10 := hB10.mem; have hz4 := hx4.size; have hE := hE.thenExt hx4; have hB6 := hB6.ext hx4
  refine WL.nil (hK13 _ _ ?_); try clear hK13
  refine CW.sr fun K14 hK14 => ?_
  refine WL.v (Y.fieldAddr fo_historypast1 rfl) ?_
  refine WL.v (Y.load1 Tryd.underlying73 rfl hB6.mem.historypast1 rfl) ?_
  refine WL.v (Y.load Tryd.underlying36 rfl hB10.mem (sz_apiDigest _) rfl) ?_
  refine WL.v (Y.lookupK rfl rfl (hP.map.ext hE)) ?_
  refine WL.m rfl ?_
  refine WL.v (Y.extract rfl rfl) ?_
  refine WL.v (Y.extract rfl rfl) ?_
  refine WL.a rfl ?_
  refine WL.a rfl ?_
  refine WL.nil (hK14 _ _ ?_); try clear hK14
  refine CW.sr fun K15 hK15 => ?_
  refine WL.m rfl ?_
  refine WL.v (Y.not rfl) ?_
  refine WL.nil (hK15 _ _ ?_); try clear hK15
  (first | refine cd_ rfl ?_ ?_ | refine ce_ rfl ?_ ?_ | refine cn_ rfl ?_ ?_ | refine cb_ rfl ?_ ?_) <;> intro ht16
  ·
   -- then
   refine CW.sr fun K17 hK17 => ?_
   refine WL.a rfl ?_
   refine WL.a rfl ?_
   refine WL.nil (hK17 _ _ ?_); try clear hK17
   refine CW.ret ⟨_, rfl, ?_⟩
   have he : txE (csL l) ids = 5 := by rw [txE, if_neg om_, if_pos ⟨d, List.mem_of_getElem? hdd, by assumption⟩]
   exact ⟨none, by rw [he], fun _ => rfl, fun h => (by rw [he] at h; cases h), hE0.thenExt hE⟩
  refine CW.skip ?_
  refine hK12 _ _ ?_; try clear hK12
  refine CW.region ?_
  refine WL.v (Y.add rfl rfl o2_) ?_
  refine WL.m rfl ?_
  refine WL.nil ?_
  refine ⟨x + 1, by show m1 - (x + 1) < m1 - x; omega, Fr.ok, by show x + 1 ≤ m1; omega, ?_, hE, hB6, by omega⟩
  intro i q hi hq
  by_cases e : i < x
  ·
   exact hpi i q e hq
  ·
   have e2 : i = x := by omega
   subst e2
   rw [hdd] at hq; cases hq
   assumption
 refine CW.exit ?_
 refine hK7 _ _ ?_; try clear hK7
 refine CW.seq fun K18 hK18 => ?_
 have hin : ∀ d ∈ ids, d ∈ idsH (csL l) := fun d hd => by
  obtain ⟨i, hi⟩ := List.mem_iff_getElem?.1 hd
  exact hpi i d (by have := (List.getElem?_eq_some_iff.1 hi).1; omega) hi
 have htx : txE (csL l) ids = 0 := txE_ok.2 ⟨hl200, hok, hin⟩
 refine CW.region ?_
 refine WL.v (Y.load Tryd.underlying75 rfl hB6.mem (sz_historypast _ _) rfl) ?_
 refine WL.m rfl ?_
 refine WL.call Tryd.func27 rfl rfl rfl (hbeneath_any A c r cl _ ys ids _ (hP.nds.ext hE) (by rw [hP.is]; exact hok.nodes hl200) (by rw [hP.is, ids_nds]; exact hP.map.ext hE) (hd.ext (hE0.thenExt hE)) (fun d hd => by rw [hP.is, ids_nds]; exact hin d hd)) (by simp) ?_; rintro v45 w5 hR5
 obtain ⟨ib, rfl, hib, hIn, hx5⟩ := hR5
 have hz5 := hx5.size
 have hE := hE.thenExt hx5
 have hB6 := hB6.ext hx5
 have hlti := hIn.lt
 rw [hP.is] at hIn
 refine as_historyversion rfl (by simp) de_ fun g13 w6 hx6 hg13 hB13 => ?_
 have hlt13 := hB13.lt; have hz6 := hx6.size
 have hM13 := hB13.mem; have hz6 := hx6.size; have hE := hE.thenExt hx6; have hB6 := hB6.ext hx6
 refine WL.nil (hK18 _ _ ?_); try clear hK18
 refine CW.sr fun K19 hK19 => ?_
 refine WL.call Tryd.func18 rfl rfl rfl (fnew_any _) (by simp) ?_; rintro v46 w7 hR7
 obtain ⟨g, rb, ra, gn, rfl, hn1, hn2, hn3, hn4, hT, hx7⟩ := hR7
 have hz7 := hx7.size
 have hE := hE.thenExt hx7
 have hB6 := hB6.ext hx7
 have hB13 := hB13.ext hx7
 have hIn := (hIn.ext hx6).ext hx7
 refine WL.a rfl ?_
 refine WL.nil (hK19 _ _ ?_); try clear hK19
 refine CW.seq fun K20 hK20 => ?_
 refine CW.sr fun K21 hK21 => ?_
 refine WL.m rfl ?_
 refine WL.v (Y.len_slice Tryd.underlying22 rfl) ?_
 refine WL.m rfl ?_
 refine WL.nil (hK21 _ _ ?_); try clear hK21
 refine CW.block ?_
 refine CW.loop (X := Nat × List Nn) (fun x => [(0, .slice A2 m2 c2), (6, .pointer (some ⟨g6, 0, none⟩)), (13, .pointer (some ⟨g13, 0, none⟩)), (14, .pointer (some ⟨g, 0, none⟩)), (47, .slice A2 m2 c2), (48, .int .i64 (m2 : Int)), (49, .int .i64 (x.1 : Int))]) (fun x w0 => x.1 ≤ m2 ∧ FtAt w0 g rb ra (trK (csL l) (Under (ndsH (csL l)) ids) x.1).ad x.2 ∧ Fw.els x.2 = (trK (csL l) (Under (ndsH (csL l)) ids) x.1).e ∧ (∀ q, Fp g rb ra x.2 q → w6.heap.size ≤ q) ∧ Ext w1 w0 ∧ Blk w0 g6 TPa (paC A ys.length c r) ∧ Blk w0 g13 TVe (veC A ys.length c r ib) ∧ Blk w0 ib TBo (boolC (markF (ndsH (csL l)) ids)) ∧ w7.heap.size ≤ w0.heap.size) (fun x => m2 - x.1) (0, newN gn) Fr.ok ⟨Nat.zero_le _, hT, rfl, (fun q hq => by have := hq.ofNew; omega), hE, hB6, hB13, hIn, Nat.le_refl _⟩ ?_
 intro x w8 hl8
 clear hE hB6 hB13 hIn hT
 obtain ⟨k, ns⟩ := x
 dsimp only at hl8 ⊢
 obtain ⟨hkm, hT, hels, hfr, hE, hB6, hB13, hIn, hz8⟩ := hl8
 have hzE := hE.size
 have hTlt := fun q (hq : Fp g rb ra ns q) => hT.lt hq
 refine CW.sr fun K22 hK22 => ?_
 refine WL.v (Y.lss rfl rfl) ?_
 refine WL.nil (hK22 _ _ ?_); try clear hK22
 refine CW.seq fun K23 hK23 => ?_
 (first | refine cd_ rfl ?_ ?_ | refine ce_ rfl ?_ ?_ | refine cn_ rfl ?_ ?_ | refine cb_ rfl ?_ ?_) <;> intro ht24
 ·
  -- then
  refine CW.skip ?_
  refine hK23 _ _ ?_; try clear hK23
  obtain ⟨cx, hcx⟩ : ∃ cx, l[k]? = some cx := ⟨_, List.getElem?_eq_getElem om_⟩
  have hco := hl.all cx (List.mem_of_getElem? hcx)
  obtain ⟨a2, rfl, hma2⟩ := hlg _ _ hcx
  obtain ⟨cm, pA, pca, oB, ocb⟩ := cx
  have hos := hco.os
  have hcc : (csL l)[k]? = some cm := cs_at hcx
  obtain ⟨y, hy⟩ : ∃ y, ys[k]? = some y := ⟨_, List.getElem?_eq_getElem om_⟩
  obtain ⟨⟨yid, yps⟩, yA, yc⟩ := y
  obtain ⟨a3, rfl, hma3⟩ := hP.nds.sl.at hy
  have hyid : yid = idD cm := by
   have h1 : (ndsL ys)[k]? = some ⟨yid, yps⟩ := by simp [hy]
   rw [hP.is, List.getElem?_map, hcc] at h1
   injection h1 with h1
   exact (congrArg Nd.id h1).symm
  subst hyid
  obtain ⟨cu, hcu⟩ : ∃ b, (markF (ndsH (csL l)) ids)[k]? = some b := ⟨_, List.getElem?_eq_getElem (by rw [markF_length, List.length_map]; omega)⟩
  have hcS : cu = true ↔ Under (ndsH (csL l)) ids (idD cm) := mark_at hok hl200 hin hcc hcu
  have htk := trK_ok hok hl200 (closed_under (csL l) ids) (k := k) om_
  have hTr : (⟨(trK (csL l) (Under (ndsH (csL l)) ids) k).ad, Fw.els ns⟩ : Tr) = (trK (csL l) (Under (ndsH (csL l)) ids) k) := by rw [hels]
  refine CW.seq_to (X := List Nn) (fun u => [(0, .slice (some a2) m2 c2), (6, .pointer (some ⟨g6, 0, none⟩)), (13, .pointer (some ⟨g13, 0, none⟩)), (14, .pointer (some ⟨g, 0, none⟩)), (47, .slice (some a2) m2 c2), (48, .int .i64 (m2 : Int)), (49, .int .i64 (k : Int))]) (fun u w0 => FtAt w0 g rb ra (trK (csL l) (Under (ndsH (csL l)) ids) (k + 1)).ad u ∧ Fw.els u = (trK (csL l) (Under (ndsH (csL l)) ids) (k + 1)).e ∧ (∀ q, Fp g rb ra u q → w6.heap.size ≤ q) ∧ Ext w1 w0 ∧ Blk w0 g6 TPa (paC (some a3) ys.length c r) ∧ Blk w0 g13 TVe (veC (some a3) ys.length c r ib) ∧ Blk w0 ib TBo (boolC (markF (ndsH (csL l)) ids)) ∧ w8.heap.size ≤ w0.heap.size) ?_ ?_
  ·
   skip
   refine CW.block ?_
   refine CW.seq fun K26 hK26 => ?_
   dsimp only [CoV.pv, CoV.ov, coC] at hos hma2
   refine CW.region ?_
   refine WL.m rfl ?_
   refine WL.v (Y.indexAddrN Tryd.underlying22 rfl rfl sz0_apiCommit om_) ?_
   refine WL.v (Y.load Tryd.underlying29 rfl (hma2.ext (hE0.thenExt hE)) (sz_apiCommit _ _ _ _) rfl) ?_
   refine WL.alloc (hci) (hcz) rfl de_ fun g16 w9 hx9 hg16 hB16 => ?_
   have hlt16 := hB16.lt; have hz9 := hx9.size
   have hM16 := hB16.mem; have hz9 := hx9.size; have hE := hE.thenExt hx9; have hB6 := hB6.ext hx9; have hB13 := hB13.ext hx9
   refine WL.a rfl ?_
   refine WL.store (g := g16) (pre := []) (old := comC (.slice none 0 0) ByteArray.empty ByteArray.empty (.slice none 0 0)) (post := []) (new := (comC (.slice pA cm.parents.length pca) cm.author cm.note (.slice oB cm.ops.length ocb))) rfl rfl rfl rfl (sz_apiCommit _ _ _ _) (by simpa using hB16) ln_ (one4 rfl rfl rfl rfl) (fun w10 hc10 hB10_ => ?_)
   have hz10 := hc10.size; have hE := hE.step hc10 (fun k h => by omega); have hB6 := hB6.chg hc10 no_; have hB13 := hB13.chg hc10 no_
   have hB16 : Blk w10 g16 29 (comC (.slice pA cm.parents.length pca) cm.author cm.note (.slice oB cm.ops.length ocb)) := by simpa using hB10_
   have hx810 : Ext w8 w10 := hx9.step hc10 (fun k h => by omega)
   have hT := hT.ext hx810
   have hIn := hIn.ext hx810
   refine WL.nil (hK26 _ _ ?_); try clear hK26
   refine CW.seq fun K27 hK27 => ?_
   refine CW.sr fun K28 hK28 => ?_
   refine WL.v (Y.fieldAddr fo_historyversion1 rfl) ?_
   refine WL.v (Y.load1 Tryd.underlying82 rfl hB13.mem.historyversion1 rfl) ?_
   refine WL.m rfl ?_
   refine WL.v (Y.indexAddrN Tryd.underlying82 rfl rfl sz0_bool om_) ?_
   refine WL.v (Y.load1 Tryd.underlying4 rfl (hIn.bcell hcu) rfl) ?_
   refine WL.v (Y.not rfl) ?_
   refine WL.nil (hK28 _ _ ?_); try clear hK28
   (first | refine cd_ rfl ?_ ?_ | refine ce_ rfl ?_ ?_ | refine cn_ rfl ?_ ?_ | refine cb_ rfl ?_ ?_) <;> intro ht29
   ·
    -- then
    refine CW.exit ?_
    have hno : ¬ Under (ndsH (csL l)) ids (idD cm) := fun h => by rw [hcS.2 h] at ht29; cases ht29
    refine ⟨ns, Fr.ok, ?_, ?_, hfr, hE, hB6, hB13, hIn, by omega⟩ <;> rw [trK_no hcc hno] <;> assumption
   refine CW.skip ?_
   refine hK27 _ _ ?_; try clear hK27
   refine CW.seq fun K30 hK30 => ?_
   refine CW.head 9 kr_ kr_ fun w11 hx11 => ?_
   skip; have hz11 := hx11.size; have hE := hE.thenExt hx11; have hB6 := hB6.ext hx11; have hB13 := hB13.ext hx11; have hB16 := hB16.ext hx11
   refine HL.val (Y.move rfl) de_ ?_
   refine HL.val (Y.fieldAddr fo_historypast0 rfl) de_ ?_
   refine HL.val (Y.load1 Tryd.underlying48 rfl hB6.mem.historypast0 rfl) de_ ?_
   refine HL.val (Y.move rfl) de_ ?_
   refine HL.val (Y.indexAddrN Tryd.underlying48 rfl rfl sz0_apiNode om_) de_ ?_
   refine HL.val (Y.fieldAddr fo_apiNode0 rfl) de_ ?_
   refine HL.val (Y.load Tryd.underlying36 rfl ((hma3.ext hE)).node0 (sz_apiDigest _) rfl) de_ ?_
   refine HL.val (Y.fieldAddr fo_apiCommit3 rfl) de_ ?_
   refine HL.val (Y.load1 Tryd.underlying27 rfl hB16.mem.com3 rfl) de_ ?_
   refine HL.nil ?_
   refine WL.call Tryd.func19 rfl rfl rfl (fadd_any g rb ra (trK (csL l) (Under (ndsH (csL l)) ids) k).ad ns (idD cm) _ cm.ops (selS (Under (ndsH (csL l)) ids) ((csL l).take k)) _ (hT.ext hx11) (by rw [hTr]; exact htk) (hos.ext (hE0.thenExt hE)) (fun hne q hq => by
    have h1 := hos.own_lt opC_ne hne q hq
    have h2 := hx1.size
    exact ⟨by omega, fun h => by have := hfr q h; omega⟩)) (by simp) ?_; rintro v69 w12 hR12
   rw [hTr] at hR12
   obtain ⟨rfl, ns2, hT2, he2, hc12, hf2, _⟩ := hR12
   have hS := hcS.1 (by simpa using ht29)
   have hw0 : wrongC (trK (csL l) (Under (ndsH (csL l)) ids) k) (idD cm) cm.ops = 0 := sel_may hok hl200 (closed_under (csL l) ids) hcc hS htk
   have hz12 := hc12.size
   have hE := hE.step hc12 (fun q hq => by have := hfr q hq; omega)
   have hB6 := hB6.chg hc12 (fun h => by have := hfr _ h; omega)
   have hB13 := hB13.chg hc12 (fun h => by have := hfr _ h; omega)
   have hIn := (hIn.ext hx11).chg hc12 (fun h => by have := hfr _ h; omega)
   refine WL.a rfl ?_
   refine WL.nil (hK30 _ _ ?_); try clear hK30
   refine CW.sr fun K31 hK31 => ?_
   refine WL.m rfl ?_
   refine WL.v (Y.neq rfl rfl) ?_
   refine WL.nil (hK31 _ _ ?_); try clear hK31
   (first | refine cd_ rfl ?_ ?_ | refine ce_ rfl ?_ ?_ | refine cn_ rfl ?_ ?_ | refine cb_ rfl ?_ ?_) <;> intro ht32
   ·
    -- then
    refine CW.sr fun K33 hK33 => ?_
    refine WL.m rfl ?_
    refine WL.a rfl ?_
    refine WL.a rfl ?_
    refine WL.nil (hK33 _ _ ?_); try clear hK33
    refine CW.ret ⟨_, rfl, ?_⟩
    exact absurd hw0 (by assumption)
   refine CW.skip ?_
   refine ⟨ns2, Fr.ok, ?_, ?_, fun q hq => ?_, hE, hB6, hB13, hIn, by omega⟩
   ·
    rw [trK_yes hcc hS]; exact hT2
   ·
    rw [trK_yes hcc hS]; exact he2
   ·
    rcases hf2 q hq with h | h
    ·
     exact hfr q h
    ·
     omega
  rintro u w13 hj13
  clear hE hB6 hB13 hIn hT
  obtain ⟨hT, hels2, hfr2, hE, hB6, hB13, hIn, hz9⟩ := hj13
  refine CW.region ?_
  refine WL.v (Y.add rfl rfl o2_) ?_
  refine WL.m rfl ?_
  refine WL.nil ?_
  exact ⟨(k + 1, u), by show m2 - (k + 1) < m2 - k; omega, Fr.ok, by show k + 1 ≤ m2; omega, hT, hels2, hfr2, hE, hB6, hB13, hIn, by omega⟩
 refine CW.exit ?_
 refine hK20 _ _ ?_; try clear hK20
 refine CW.sr fun K34 hK34 => ?_
 refine WL.m rfl ?_
 refine WL.a rfl ?_
 refine WL.a rfl ?_
 refine WL.nil (hK34 _ _ ?_); try clear hK34
 refine CW.ret ⟨_, rfl, ?_⟩
 have hkl : k = (csL l).length := by omega
 subst hkl
 exact ⟨_, by rw [htx], fun h => absurd htx h, fun _ => ⟨g, rb, ra, ns, rfl, hT, hels, (fun q hq => by have := hfr q hq; omega)⟩, hE0.thenExt hE⟩
theorem htext_any (u v0 : Value) (l : List CoV) (ids : List Dig) (w : World) (hl : Hcs w u l) (hd : Sl w digC 32 v0 ids) (hK : Mem w ⟨0, 0, none⟩ (wds keysL)) : Calls Tryd.prog 11 #[u, v0] w (Ret fun v w' => v = .tuple #[.string (bs (txL (csL l) ids)), .int .i64 (txE (csL l) ids)] ∧ Ext w w') := by
 refine calls_of_CW 19 [4, 5] [(0, u), (1, v0)] Tryd.func11 rfl rfl rfl (by simp) args2 ?_
 have hE : Ext w w := Chg.refl
 refine CW.sr fun K1 hK1 => ?_
 refine WL.a rfl ?_
 refine WL.a rfl ?_
 refine WL.nil (hK1 _ _ ?_); try clear hK1
 refine CW.sr fun K2 hK2 => ?_
 refine WL.m rfl ?_
 refine WL.m rfl ?_
 refine WL.call Tryd.func16 rfl rfl rfl (htree_any _ _ l ids _ hl hd hK) (by simp) ?_; rintro v11 w1 hR1
 obtain ⟨p, rfl, hbad, hgood, hx1⟩ := hR1
 have hz1 := hx1.size
 have hE := hE.thenExt hx1
 refine WL.m rfl ?_
 refine WL.v (Y.extract rfl rfl) ?_
 refine WL.v (Y.extract rfl rfl) ?_
 refine WL.a rfl ?_
 refine WL.a rfl ?_
 refine WL.nil (hK2 _ _ ?_); try clear hK2
 refine CW.seq fun K3 hK3 => ?_
 refine CW.sr fun K4 hK4 => ?_
 refine WL.m rfl ?_
 refine WL.v (Y.neq rfl rfl) ?_
 refine WL.nil (hK4 _ _ ?_); try clear hK4
 (first | refine cd_ rfl ?_ ?_ | refine ce_ rfl ?_ ?_ | refine cn_ rfl ?_ ?_ | refine cb_ rfl ?_ ?_) <;> intro ht5
 ·
  -- then
  refine CW.sr fun K6 hK6 => ?_
  refine WL.m rfl ?_
  refine WL.a rfl ?_
  refine WL.a rfl ?_
  refine WL.nil (hK6 _ _ ?_); try clear hK6
  refine CW.ret ⟨_, rfl, ?_⟩
  exact ⟨by rw [txL, if_neg (by assumption)]; rfl, hE⟩
 refine CW.skip ?_
 refine hK3 _ _ ?_; try clear hK3
 refine CW.seq fun K7 hK7 => ?_
 have h0 : txE (csL l) ids = 0 := Decidable.not_not.1 (by assumption)
 obtain ⟨g, rb, ra, ns, rfl, hT⟩ := hgood h0
 have hok := txE_ok.1 h0
 have htr := trH_ok hok.2.1 hok.1 ids
 refine CW.region ?_
 refine WL.m rfl ?_
 refine WL.call Tryd.func24 rfl rfl rfl (ftext_any g rb ra _ ns _ hT.ft (by rw [hT.els]; exact htr.good) (by rw [← hT.len]; exact htr.few)) (by simp) ?_; rintro v w2 ⟨rfl, hx2⟩; have hz2 := hx2.size; have hE := hE.thenExt hx2
 refine WL.a rfl ?_
 refine WL.a rfl ?_
 refine WL.nil (hK7 _ _ ?_); try clear hK7
 refine CW.ret ⟨_, rfl, ?_⟩
 exact ⟨by rw [txL, if_pos h0, h0, hT.els], hE⟩
theorem hmerge_any (u v0 v1 : Value) (l : List CoV) (a b : List Dig) (w : World) (hl : Hcs w u l) (ha : Sl w digC 32 v0 a) (hb : Sl w digC 32 v1 b) (hp : (a.length + b.length) * 32 ≤ 140737488355328) (hK : Mem w ⟨0, 0, none⟩ (wds keysL)) : Calls Tryd.prog 12 #[u, v0, v1] w (Ret fun v w' => ∃ hv, v = .tuple #[hv, .int .i64 (mgE (csL l) a b)] ∧ Own w' TDg 32 hv (flatD (mgL (csL l) a b)) ∧ (∀ k, hv.ownBlock = some k → w.heap.size ≤ k) ∧ Ext w w') := by
 obtain ⟨A1, m1, c1, rfl, h1m, h1c, h1x, h1g⟩ := id ha
 obtain ⟨A2, m2, c2, rfl, h2m, h2c, h2x, h2g⟩ := id hb
 refine calls_of_CW 35 [6, 7] [(0, u), (1, .slice A1 m1 c1), (2, .slice A2 m2 c2)] Tryd.func12 rfl rfl rfl (by simp) args3 ?_
 have hE : Ext w w := Chg.refl
 refine CW.sr fun K1 hK1 => ?_
 refine WL.a rfl ?_
 refine WL.a rfl ?_
 refine WL.nil (hK1 _ _ ?_); try clear hK1
 refine CW.sr fun K2 hK2 => ?_
 refine WL.m rfl ?_
 refine WL.call Tryd.func14 rfl rfl rfl (hnodes_any _ l _ hl hK) (by simp) ?_; rintro v13 w1 hR1
 obtain ⟨A, c, ys, rfl, hQ, hys, hx1⟩ := hR1
 have hQ0 := hQ
 have hz1 := hx1.size
 have hE := hE.thenExt hx1
 refine WL.m rfl ?_
 refine WL.v (Y.extract rfl rfl) ?_
 refine WL.v (Y.extract rfl rfl) ?_
 refine WL.a rfl ?_
 refine WL.a rfl ?_
 refine WL.nil (hK2 _ _ ?_); try clear hK2
 refine CW.seq fun K3 hK3 => ?_
 refine CW.sr fun K4 hK4 => ?_
 refine WL.m rfl ?_
 refine WL.v (Y.neq rfl rfl) ?_
 refine WL.nil (hK4 _ _ ?_); try clear hK4
 (first | refine cd_ rfl ?_ ?_ | refine ce_ rfl ?_ ?_ | refine cn_ rfl ?_ ?_ | refine cb_ rfl ?_ ?_) <;> intro ht5
 ·
  -- then
  refine CW.sr fun K6 hK6 => ?_
  refine WL.m rfl ?_
  refine WL.a rfl ?_
  refine WL.a rfl ?_
  refine WL.nil (hK6 _ _ ?_); try clear hK6
  refine CW.ret ⟨_, rfl, ?_⟩
  have he : txE (csL l) (a ++ b) = (rdH (csL l)).2 := by rw [txE, if_pos (by assumption)]
  have he2 : mgE (csL l) a b = (rdH (csL l)).2 := by rw [mgE, if_pos (by rw [he]; assumption), he]
  exact ⟨.slice none 0 0, by rw [he2]; rfl, by rw [mgL, if_neg (by rw [he2]; assumption)]; exact Own.nil, (fun k h => by simp [Value.ownBlock] at h), hE⟩
 refine CW.skip ?_
 refine hK3 _ _ ?_; try clear hK3
 refine CW.seq fun K7 hK7 => ?_
 have h0 : (rdH (csL l)).2 = 0 := Decidable.not_not.1 (by assumption)
 rw [if_pos h0] at hys
 refine CW.region ?_
 refine WL.m rfl ?_
 refine WL.m rfl ?_
 refine WL.st (St.append (news := flatD a) Tryd.underlying25 Tryd.underlying25 ai_dig rfl rfl Own.nil (Sl.src digC_length (ha.ext hE)) (one_fdH _) (by simp only [List.length_nil]; omega)) de_ fun v22 w2 hR2 => ?_
 obtain ⟨hO2, hc2, hf2⟩ := hR2
 have hz2 := hc2.size
 have hx2 : Ext w1 w2 := hc2.toExt (fun k _ h => by simp [Value.ownBlock] at h)
 rw [List.nil_append] at hO2
 have hE := hE.thenExt hx2
 have hQ := hQ.ext hx2
 have hf2 : ∀ k, v22.ownBlock = some k → w1.heap.size ≤ k := fun k hk => by
  rcases hf2 with h | h
  ·
   rw [h] at hk; simp [Value.ownBlock] at hk
  ·
   exact h k hk
 refine WL.m rfl ?_
 refine WL.st (St.append (news := flatD b) Tryd.underlying25 Tryd.underlying25 ai_dig rfl rfl hO2 (Sl.src digC_length (hb.ext hE)) (one_fdH _) (by rw [flat_length digC_length]; omega)) de_ fun v24 w3 hR3 => ?_
 obtain ⟨hO3, hc3, hf3⟩ := hR3
 have hz3 := hc3.size
 have hE := hE.step hc3 (fun k h => by have := hf2 k h; omega)
 have hx13 : Ext w1 w3 := hx2.step hc3 (fun k h => hf2 k h)
 have hN := hQ0.nds.ext hx13
 have hO3 : Own w3 TDg 32 v24 (flatD (a ++ b)) := by rw [flatD, List.map_append, List.flatten_append]; exact hO3
 have hS3 := hO3.sl digC_length de_
 refine WL.call Tryd.func25 rfl rfl rfl (gHeads_any _ _ ys (a ++ b) _ hN hS3) (by simp) ?_; rintro v25 w4 hR4
 obtain ⟨hv, rfl, hO4, hf4, hx4⟩ := hR4
 have hz4 := hx4.size
 have hzE := hE.size
 have hE := hE.thenExt hx4
 rw [hys, wrongQ_tx h0] at hO4 ⊢
 refine WL.m rfl ?_
 refine WL.v (Y.extract rfl rfl) ?_
 refine WL.v (Y.extract rfl rfl) ?_
 refine WL.a rfl ?_
 refine WL.a rfl ?_
 refine WL.nil (hK7 _ _ ?_); try clear hK7
 refine CW.seq fun K8 hK8 => ?_
 refine CW.sr fun K9 hK9 => ?_
 refine WL.m rfl ?_
 refine WL.v (Y.neq rfl rfl) ?_
 refine WL.nil (hK9 _ _ ?_); try clear hK9
 (first | refine cd_ rfl ?_ ?_ | refine ce_ rfl ?_ ?_ | refine cn_ rfl ?_ ?_ | refine cb_ rfl ?_ ?_) <;> intro ht10
 ·
  -- then
  refine CW.sr fun K11 hK11 => ?_
  refine WL.m rfl ?_
  refine WL.a rfl ?_
  refine WL.a rfl ?_
  refine WL.nil (hK11 _ _ ?_); try clear hK11
  refine CW.ret ⟨_, rfl, ?_⟩
  have he2 : mgE (csL l) a b = txE (csL l) (a ++ b) := by rw [mgE, if_pos (by assumption)]
  exact ⟨.slice none 0 0, by rw [he2]; rfl, by rw [mgL, if_neg (by rw [he2]; assumption)]; exact Own.nil, (fun k h => by simp [Value.ownBlock] at h), hE⟩
 refine CW.skip ?_
 refine hK8 _ _ ?_; try clear hK8
 refine CW.seq fun K12 hK12 => ?_
 refine CW.seq fun K13 hK13 => ?_
 have htx : txE (csL l) (a ++ b) = 0 := Decidable.not_not.1 (by assumption)
 rw [if_pos htx] at hO4
 have hO4 : Own w4 TDg 32 hv (flatD (hdL (ndsH (csL l)) (a ++ b))) := hO4
 obtain ⟨A9, n9, c9, rfl⟩ := hO4.lens
 have hn9 : n9 = (hdL (ndsH (csL l)) (a ++ b)).length := by
  have := (hO4.mem _ _ _ rfl).2.2.1
  rw [flat_length digC_length] at this
  omega
 subst hn9
 refine CW.region ?_
 refine WL.m rfl ?_
 refine WL.v (Y.len_slice Tryd.underlying25 rfl) ?_
 refine WL.v (Y.gtr rfl rfl) ?_
 refine WL.nil (hK13 _ _ ?_); try clear hK13
 (first | refine cd_ rfl ?_ ?_ | refine ce_ rfl ?_ ?_ | refine cn_ rfl ?_ ?_ | refine cb_ rfl ?_ ?_) <;> intro ht14
 ·
  -- then
  refine CW.sr fun K15 hK15 => ?_
  refine WL.a rfl ?_
  refine WL.a rfl ?_
  refine WL.nil (hK15 _ _ ?_); try clear hK15
  refine CW.ret ⟨_, rfl, ?_⟩
  have he2 : mgE (csL l) a b = 4 := by rw [mgE_tx htx, if_pos om_]
  exact ⟨_, by rw [he2], by rw [mgL, if_neg (by rw [he2]; decide)]; exact Own.nil, (fun k h => by simp [Value.ownBlock] at h), hE⟩
 refine CW.skip ?_
 refine hK12 _ _ ?_; try clear hK12
 refine CW.sr fun K16 hK16 => ?_
 refine WL.m rfl ?_
 refine WL.a rfl ?_
 refine WL.a rfl ?_
 refine WL.nil (hK16 _ _ ?_); try clear hK16
 refine CW.ret ⟨_, rfl, ?_⟩
 have he2 : mgE (csL l) a b = 0 := by rw [mgE_tx htx, if_neg om_]
 exact ⟨_, by rw [he2], by rw [mgL, if_pos he2]; exact hO4, (fun k h => by have := hf4 k h; omega), hE⟩
end Go.Proofs.YtmehkigmnpjcjaaDoor
/- Some of a history's commits: the law's Pick, walked. No condition but the table of digest.keys. -/
namespace Go.Proofs.YtmehkigmnpjcjaaDoor
open Go.RowKit Go.Fw Go.Pl Go.Sort Go.Fu
def i1C (i : Int) : List Value := [.int .i64 i]
def dgI (i : Int) : Dig := ⟨UInt8.ofNat (i % 256).toNat :: List.replicate 31 0, by simp⟩
theorem u8_int (i : Int) : IntKind.u8.wrap i = ((UInt8.ofNat (i % 256).toNat).toNat : Int) := by
 have h1 := Int.emod_nonneg i (by decide : (256 : Int) ≠ 0)
 have h2 := Int.emod_lt_of_pos i (by decide : (0 : Int) < 256)
 have h3 : IntKind.u8.wrap i = i % 256 := by simp [IntKind.wrap, IntKind.bits, IntKind.signed]
 rw [h3, UInt8.toNat_ofNat']
 omega
theorem build_dgI (i : Int) (w : World) : (Instr.build 36 [(0, .int .u8 (IntKind.u8.wrap i))].toArray).run Tryd.prog w = .ok (digV (dgI i)) w := by
 rw [u8_int]
 exact run_build w _ _ _ kr_
theorem tmod_inH {i n : Int} (h : 0 < n) : -n < i.tmod n ∧ i.tmod n < n := by
 have h1 := Int.tmod_lt_of_pos (-i) h
 rw [Int.neg_tmod] at h1
 exact ⟨by omega, Int.tmod_lt_of_pos i h⟩
def rndN (i : Int) (n : Nat) : Nat := ((i.tmod (n : Int) + (n : Int)).tmod (n : Int)).toNat
theorem rnd_at {i : Int} {n : Nat} (h : 0 < n) : (i.tmod (n : Int) + (n : Int)).tmod (n : Int) = (rndN i n : Int) ∧ rndN i n < n := by
 have hn : (0 : Int) < (n : Int) := by omega
 have h1 := tmod_inH (i := i) hn
 have h2 := Int.tmod_nonneg (a := i.tmod (n : Int) + (n : Int)) (n : Int) om_
 have h3 := Int.tmod_lt_of_pos (i.tmod (n : Int) + (n : Int)) hn
 unfold rndN
 omega
open Classical in
noncomputable def pkD (cs : List ComD) (i : Int) : Dig := if ((rdH cs).2 ≠ 0 ∨ cs.length = 0) ∨ i = -7 then dgI i else (idsH cs)[rndN i cs.length]?.getD Dig.zero
noncomputable def pickL (cs : List ComD) (so : List Int) : List Dig := so.map (pkD cs)
theorem Y.remR {P : Program} {n : NN} {fr : Fr} {w : World} {ty : TypeId} {x y : Operand} {i : Int} {m : Nat} {t t' : TypeId} (hx : ev fr x = some (.int .i64 (i.tmod (m : Int) + (m : Int)))) (hy : ev fr y = some (.int .i64 (m : Int))) (h : 0 < m) : Yw P n fr (.binOp .rem t x y t') ty w (.int .i64 (rndN i m : Int)) w := by
 have h1 := Y.rem (P := P) (n := n) (w := w) (ty := ty) (t := t) (t' := t') hx hy om_
 rwa [(rnd_at h).1] at h1
theorem pk_t {a b : Prop} {i : Int} (h : a) : true = true ↔ (a ∨ b) ∨ i = -7 := ⟨fun _ => .inl (.inl h), fun _ => rfl⟩
theorem pk_t2 {a b : Prop} {i : Int} (h : b) : true = true ↔ (a ∨ b) ∨ i = -7 := ⟨fun _ => .inl (.inr h), fun _ => rfl⟩
theorem pk_t3 {a b : Prop} {i : Int} (h : ¬ a) (h2 : ¬ b) : decide (i = -7) = true ↔ (a ∨ b) ∨ i = -7 := ⟨fun h => .inr (of_decide_eq_true h), fun hh => decide_eq_true (hh.elim (fun e => absurd e fun e => e.elim h h2) id)⟩
theorem pk_is {cs : List ComD} {ys : List NdV} {i : Int} (hys : ndsL ys = if (rdH cs).2 = 0 then ndsH cs else []) (h : ((rdH cs).2 ≠ 0 ∨ (ys.length : Int) = 0) ∨ i = -7) : pkD cs i = dgI i := by
 rw [pkD, if_pos]
 rcases h with (h | h) | h
 ·
  exact .inl (.inl h)
 ·
  by_cases h0 : (rdH cs).2 = 0
  ·
   rw [if_pos h0] at hys
   have := congrArg List.length hys
   simp only [List.length_map] at this
   exact .inl (.inr om_)
  ·
   exact .inl (.inl h0)
 ·
  exact .inr h
theorem pick_succ {cs : List ComD} {so : List Int} {x : Nat} {i : Int} (h : so[x]? = some i) : flatD (pickL cs (so.take (x + 1))) = flatD (pickL cs (so.take x)) ++ digC (pkD cs i) := by
 show (List.map digC (List.map (pkD cs) (so.take (x + 1)))).flatten = (List.map digC (List.map (pkD cs) (so.take x))).flatten ++ _
 rw [take_succ h, List.map_append, List.map_append, List.flatten_append]
 simp only [List.map_cons, List.map_nil, List.flatten_cons, List.flatten_nil, List.append_nil]
theorem pick_any (u v1 : Value) (l : List CoV) (so : List Int) (w : World) (hl : Hcs w u l) (hs : Sl w i1C 1 v1 so) (hp : so.length * 32 ≤ 140737488351232) (hK : Mem w ⟨0, 0, none⟩ (wds keysL)) : Calls Tryd.prog 4 #[u, v1] w (Ret fun v w' => Own w' TDg 32 v (flatD (pickL (csL l) so)) ∧ (∀ k, v.ownBlock = some k → w.heap.size ≤ k) ∧ Ext w w') := by
 obtain ⟨A1, m1, c1, rfl, hsm, hsc, hsx, hsg⟩ := id hs
 unfold maxLen at hsx
 refine calls_of_CW 64 [4] [(0, u), (1, .slice A1 m1 c1)] Tryd.func4 rfl rfl rfl (by simp) args2 ?_
 have hE : Ext w w := Chg.refl
 refine CW.sr fun K1 hK1 => ?_
 refine WL.a rfl ?_
 refine WL.nil (hK1 _ _ ?_); try clear hK1
 refine CW.sr fun K2 hK2 => ?_
 refine WL.m rfl ?_
 refine WL.call Tryd.func14 rfl rfl rfl (hnodes_any _ l _ hl hK) (by simp) ?_; rintro v11 w1 hR1
 obtain ⟨A, c, ys, rfl, hQ, hys, hx1⟩ := hR1
 have hz1 := hx1.size
 have hE0 := hx1
 clear hE
 have hE : Ext w1 w1 := Chg.refl
 refine WL.m rfl ?_
 refine WL.v (Y.extract rfl rfl) ?_
 refine WL.v (Y.extract rfl rfl) ?_
 refine WL.a rfl ?_
 refine WL.a rfl ?_
 refine WL.nil (hK2 _ _ ?_); try clear hK2
 refine CW.sr fun K3 hK3 => ?_
 refine WL.a rfl ?_
 refine WL.nil (hK3 _ _ ?_); try clear hK3
 refine CW.seq fun K4 hK4 => ?_
 refine CW.sr fun K5 hK5 => ?_
 refine WL.a rfl ?_
 refine WL.nil (hK5 _ _ ?_); try clear hK5
 refine CW.block ?_
 refine CW.loop (X := Nat × Value) (fun x => [(1, .slice A1 m1 c1), (5, .slice A ys.length c), (6, .int .i64 (rdH (csL l)).2), (7, x.2), (8, .int .i64 (x.1 : Int))]) (fun x w0 => x.1 ≤ m1 ∧ Own w0 TDg 32 x.2 (flatD (pickL (csL l) (so.take x.1))) ∧ (∀ k, x.2.ownBlock = some k → w1.heap.size ≤ k) ∧ Ext w1 w0) (fun x => m1 - x.1) (0, .slice none 0 0) Fr.ok ⟨Nat.zero_le _, Own.nil, (fun k h => by simp [Value.ownBlock] at h), hE⟩ ?_
 intro x w2 hl2
 clear hE
 obtain ⟨x, v⟩ := x
 dsimp only at hl2 ⊢
 obtain ⟨hxm, hO, hfu, hE⟩ := hl2
 have hzE := hE.size
 have hOlt := hO.lt
 have hOl : (pickL (csL l) (so.take x)).length = x := by rw [pickL, List.length_map, List.length_take]; omega
 refine CW.seq fun K6 hK6 => ?_
 refine CW.sr fun K7 hK7 => ?_
 refine WL.m rfl ?_
 refine WL.m rfl ?_
 refine WL.v (Y.len_slice Tryd.underlying23 rfl) ?_
 refine WL.v (Y.lss rfl rfl) ?_
 refine WL.nil (hK7 _ _ ?_); try clear hK7
 (first | refine cd_ rfl ?_ ?_ | refine ce_ rfl ?_ ?_ | refine cn_ rfl ?_ ?_ | refine cb_ rfl ?_ ?_) <;> intro ht8
 ·
  -- then
  refine CW.skip ?_
  refine hK6 _ _ ?_; try clear hK6
  obtain ⟨i, hi⟩ : ∃ i, so[x]? = some i := ⟨_, List.getElem?_eq_getElem om_⟩
  obtain ⟨a1, rfl, hma⟩ := hsg _ _ hi
  refine CW.seq_to (X := Value) (fun v => [(1, .slice (some a1) m1 c1), (5, .slice A ys.length c), (6, .int .i64 (rdH (csL l)).2), (7, v), (8, .int .i64 (x : Int))]) (fun v w0 => Own w0 TDg 32 v (flatD (pickL (csL l) (so.take (x + 1)))) ∧ (∀ k, v.ownBlock = some k → w1.heap.size ≤ k) ∧ Ext w1 w0) ?_ ?_
  ·
   skip
   refine CW.block ?_
   refine CW.seq fun K10 hK10 => ?_
   refine CW.seq_test 33 (((rdH (csL l)).2 ≠ 0 ∨ (ys.length : Int) = 0) ∨ i = -7) ?_ ?_
   ·
    refine CW.region ?_
    refine WL.m rfl ?_
    refine WL.v (Y.neq rfl rfl) ?_
    refine WL.m rfl ?_
    (first | refine WL.casesD (d := 22) rfl ?_ ?_ | refine WL.casesND (d := 22) rfl ?_ ?_ | refine WL.cases (d := 22) rfl ?_ ?_) <;> intro hg22
    ·
     -- t22 = T
     refine WL.o rfl rfl ?_
     refine WL.o rfl rfl ?_
     refine WL.o rfl rfl ?_
     refine WL.v (Y.pick rfl rfl) ?_
     refine WL.m rfl ?_
     refine WL.o rfl rfl ?_
     refine WL.o rfl rfl ?_
     refine WL.o rfl rfl ?_
     refine WL.o rfl rfl ?_
     refine WL.o rfl rfl ?_
     refine WL.v (Y.pick rfl rfl) ?_
     refine WL.nil ⟨⟨_, rfl, ?_⟩, rfl, Fr.okp⟩
     first | exact pk_t hg22 | exact pk_t2 hg27 | exact pk_t3 hg22 hg27
    ·
     -- t22 = F
     refine WL.g rfl rfl (Y.move rfl) ?_
     refine WL.g rfl rfl (Y.len_slice Tryd.underlying48 rfl) ?_
     refine WL.g rfl rfl (Y.eql rfl rfl) ?_
     refine WL.v (Y.pick rfl rfl) ?_
     refine WL.m rfl ?_
     (first | refine WL.casesD (d := 27) rfl ?_ ?_ | refine WL.casesND (d := 27) rfl ?_ ?_ | refine WL.cases (d := 27) rfl ?_ ?_) <;> intro hg27
     ·
      -- t27 = T
      refine WL.o rfl rfl ?_
      refine WL.o rfl rfl ?_
      refine WL.o rfl rfl ?_
      refine WL.o rfl rfl ?_
      refine WL.o rfl rfl ?_
      refine WL.v (Y.pick rfl rfl) ?_
      refine WL.nil ⟨⟨_, rfl, ?_⟩, rfl, Fr.okp⟩
      first | exact pk_t hg22 | exact pk_t2 hg27 | exact pk_t3 hg22 hg27
     ·
      -- t27 = F
      refine WL.g rfl rfl (Y.move rfl) ?_
      refine WL.g rfl rfl (Y.move rfl) ?_
      refine WL.g rfl rfl (Y.indexAddrN Tryd.underlying23 rfl rfl sz0_int om_) ?_
      refine WL.g rfl rfl (Y.load1 Tryd.underlying3 rfl (show _ = some (.int .i64 i) from (hma.ext (hE0.thenExt hE)).cell0) rfl) ?_
      refine WL.g rfl rfl (Y.eql rfl rfl) ?_
      refine WL.v (Y.pick rfl rfl) ?_
      refine WL.nil ⟨⟨_, rfl, ?_⟩, rfl, Fr.okp⟩
      first | exact pk_t hg22 | exact pk_t2 hg27 | exact pk_t3 hg22 hg27
   (first | refine cd_ rfl ?_ ?_ | refine ce_ rfl ?_ ?_ | refine cn_ rfl ?_ ?_ | refine cb_ rfl ?_ ?_) <;> intro ht11
   ·
    -- then
    refine CW.sr fun K12 hK12 => ?_
    refine WL.m rfl ?_
    refine WL.m rfl ?_
    refine WL.m rfl ?_
    refine WL.v (Y.indexAddrN Tryd.underlying23 rfl rfl sz0_int om_) ?_
    refine WL.v (Y.load1 Tryd.underlying3 rfl (show _ = some (.int .i64 i) from (hma.ext (hE0.thenExt hE)).cell0) rfl) ?_
    refine WL.v (Y.conv_int Tryd.underlying3 Tryd.underlying5 rfl) ?_
    refine WL.v (Y.build rfl (build_dgI i _)) ?_
    refine WL.st (St.buildSlice rfl (bs1_dig (dgI i))) de_ fun v41 w3 hR3 => ?_
    obtain ⟨g41, rfl, hg41, hB41, hx3⟩ := hR3
    have hz3 := hx3.size
    have hE := hE.thenExt hx3
    refine WL.st (St.append (m := 1) Tryd.underlying25 Tryd.underlying25 ai_dig rfl rfl (hO.ext hx3) (Fw.Src.one hB41 (digC_length _)) one_digC (by rw [flat_length digC_length, hOl]; omega)) de_ fun v42 w4 hR4 => ?_
    obtain ⟨hO4, hc4, hf4⟩ := hR4
    have hz4 := hc4.size
    have hE := hE.step hc4 (fun k h => by have := hfu k h; omega)
    have hfu4 : ∀ k, v42.ownBlock = some k → w1.heap.size ≤ k := fun k hk => by
     rcases hf4 with h | h
     ·
      exact hfu k (h ▸ hk)
     ·
      have := h k hk; omega
    refine WL.a rfl ?_
    refine WL.nil (hK12 _ _ ?_); try clear hK12
    refine CW.exit ?_
    have hpk : pkD (csL l) i = dgI i := pk_is hys (by assumption)
    exact ⟨v42, Fr.ok, by rw [pick_succ hi, hpk]; exact hO4, hfu4, hE⟩
   refine CW.skip ?_
   refine hK10 _ _ ?_; try clear hK10
   have hno : ¬ (((rdH (csL l)).2 ≠ 0 ∨ (ys.length : Int) = 0) ∨ i = -7) := by assumption
   have h0 : (rdH (csL l)).2 = 0 := Decidable.not_not.1 fun h => hno (.inl (.inl h))
   rw [if_pos h0] at hys
   have hyc : ys.length = (csL l).length := by have := congrArg List.length hys; simpa using this
   have hy0 : 0 < ys.length := Nat.pos_of_ne_zero fun h => hno (.inl (.inr om_))
   have hrd := rnd_at (i := i) hy0
   have htm := tmod_inH (i := i) (n := (ys.length : Int)) om_
   have hl2 := (rdH_ok.1 h0).1
   obtain ⟨y, hy⟩ : ∃ y, ys[rndN i ys.length]? = some y := ⟨_, List.getElem?_eq_getElem hrd.2⟩
   have hpk : pkD (csL l) i = y.n.id := by
    rw [pkD, if_neg (fun h => hno (h.imp (fun h => h.imp id fun h => by omega) id)), ← hyc]
    have h1 : (ndsL ys)[rndN i ys.length]? = some y.n := by simp [hy]
    rw [hys] at h1
    have h2 : (idsH (csL l))[rndN i ys.length]? = some y.n.id := by
     rw [← ids_nds, idsL, List.getElem?_map, h1]; rfl
    rw [h2]; rfl
   obtain ⟨⟨yid, yps⟩, yA, yc⟩ := y
   obtain ⟨a3, rfl, hma3⟩ := hQ.nds.sl.at hy
   refine CW.region ?_
   refine WL.m rfl ?_
   refine WL.m rfl ?_
   refine WL.m rfl ?_
   refine WL.m rfl ?_
   refine WL.v (Y.indexAddrN Tryd.underlying23 rfl rfl sz0_int om_) ?_
   refine WL.v (Y.load1 Tryd.underlying3 rfl (show _ = some (.int .i64 i) from (hma.ext (hE0.thenExt hE)).cell0) rfl) ?_
   refine WL.m rfl ?_
   refine WL.v (Y.len_slice Tryd.underlying48 rfl) ?_
   refine WL.v (Y.rem rfl rfl om_) ?_
   refine WL.m rfl ?_
   refine WL.v (Y.len_slice Tryd.underlying48 rfl) ?_
   refine WL.v (Y.add rfl rfl o2_) ?_
   refine WL.m rfl ?_
   refine WL.v (Y.len_slice Tryd.underlying48 rfl) ?_
   refine WL.v (Y.remR rfl rfl om_) ?_
   refine WL.v (Y.indexAddrN Tryd.underlying48 rfl rfl sz0_apiNode hrd.2) ?_
   refine WL.v (Y.fieldAddr fo_apiNode0 rfl) ?_
   refine WL.v (Y.load Tryd.underlying36 rfl (hma3.ext hE).node0 (sz_apiDigest _) rfl) ?_
   refine WL.st (St.buildSlice rfl (bs1_dig yid)) de_ fun v61 w5 hR5 => ?_
   obtain ⟨g61, rfl, hg61, hB61, hx5⟩ := hR5
   have hz5 := hx5.size
   have hE := hE.thenExt hx5
   refine WL.st (St.append (m := 1) Tryd.underlying25 Tryd.underlying25 ai_dig rfl rfl (hO.ext hx5) (Fw.Src.one hB61 (digC_length _)) one_digC (by rw [flat_length digC_length, hOl]; omega)) de_ fun v62 w6 hR6 => ?_
   obtain ⟨hO6, hc6, hf6⟩ := hR6
   have hz6 := hc6.size
   have hE := hE.step hc6 (fun k h => by have := hfu k h; omega)
   have hfu6 : ∀ k, v62.ownBlock = some k → w1.heap.size ≤ k := fun k hk => by
    rcases hf6 with h | h
    ·
     exact hfu k (h ▸ hk)
    ·
     have := h k hk; omega
   refine WL.a rfl ?_
   refine WL.nil ?_
   exact ⟨v62, Fr.ok, by rw [pick_succ hi, hpk]; exact hO6, hfu6, hE⟩
  rintro u w7 hj7
  clear hE
  obtain ⟨hO, hfu, hE⟩ := hj7
  refine CW.region ?_
  refine WL.m rfl ?_
  refine WL.v (Y.add rfl rfl o2_) ?_
  refine WL.a rfl ?_
  refine WL.nil ?_
  exact ⟨(x + 1, u), by show m1 - (x + 1) < m1 - x; omega, Fr.ok, by show x + 1 ≤ m1; omega, hO, hfu, hE⟩
 refine CW.exit ?_
 refine hK4 _ _ ?_; try clear hK4
 refine CW.sr fun K13 hK13 => ?_
 refine WL.m rfl ?_
 refine WL.a rfl ?_
 refine WL.nil (hK13 _ _ ?_); try clear hK13
 refine CW.ret ⟨_, rfl, ?_⟩
 have hxm2 : x = m1 := by omega
 subst hxm2
 rw [List.take_of_length_le om_] at hO
 exact ⟨hO, (fun k hk => by have := hfu k hk; omega), hE0.thenExt hE⟩
end Go.Proofs.YtmehkigmnpjcjaaDoor
/- Lists of commits, of numbers, arrays of these as arguments of this program. No condition. -/
namespace Go.Fw
open Go.RowKit Go.WideShapes Go.ChangeShapes Go.ChangeAt Go.Deep
theorem okWide_arrH {P : Program} {w : World} {base : Nat} {t e : TypeId} {m : Nat} {v : Value} (ht : P.underlying t = some (.array m e)) (h : Value.okWide P w .any base t v) : ∃ cs, v = .agg cs ∧ cs.size = P.cellsOf t := by
 simp only [Value.okWide, ht] at h
 obtain ⟨cs, h1, h2, _⟩ := h
 exact ⟨cs, h1, h2⟩
end Go.Fw
namespace Go.Proofs.YtmehkigmnpjcjaaDoor
open Go.RowKit Go.Fw Go.WideShapes Go.ChangeShapes Go.ChangeAt Go.Deep
structure CoIn (w : World) (x : CoV) : Prop where
 at_ : CoAt w x
 parents : x.c.parents.length * 32 ≤ reachBytes
 ops : x.c.ops.length * 72 ≤ reachBytes
theorem rd_cov : RdW Tryd.prog 29 (fun w cs => ∃ x : CoV, cs = coC x ∧ CoIn w x) := rd_com.mono fun w cs ⟨c, hc⟩ => by
 obtain ⟨pv, ov, hv, hp, ho, ha, hn⟩ := hc.com
 obtain ⟨A, ca, rfl, _⟩ := hp.lens
 obtain ⟨B, cb, rfl, _⟩ := ho.lens
 refine ⟨⟨c, A, ca, B, cb⟩, ?_, ⟨hp, ho, ha, hn⟩, hc.parents, hc.ops⟩
 injection hv with hv
 have := congrArg Array.toList hv
 have e : cs = comC (.slice A c.parents.length ca) c.author c.note (.slice B c.ops.length cb) := by simpa using this
 exact e
theorem bytes_co : Tryd.prog.bytesOf 29 = 80 := by kernel_rfl
theorem rd_cos : RdW Tryd.prog 22 (fun w cs => ∃ v xs, cs = [v] ∧ Sl w coC 4 v xs ∧ xs.length * Tryd.prog.bytesOf 29 ≤ reachBytes ∧ ∀ (i : Nat) x, xs[i]? = some x → CoIn w x) :=
 RdW.slice (Q := fun w x => CoIn w x) Tryd.underlying22 kr_ coC_length rd_cov
theorem i1C_length (i : Int) : (i1C i).length = 1 := rfl
theorem rd_ints : RdW Tryd.prog 23 (fun w cs => ∃ v xs, cs = [v] ∧ Sl w i1C 1 v xs ∧ xs.length * Tryd.prog.bytesOf 3 ≤ reachBytes ∧ ∀ (i : Nat) x, xs[i]? = some x → True) :=
 RdW.slice (Q := fun _ _ => True) Tryd.underlying23 kr_ i1C_length ((RdW.int Tryd.underlying3).mono fun w cs ⟨i, h⟩ => ⟨i, h.1, trivial⟩)
section
variable {H : Type} {en : TypeId × Value → H} {w : World} {v : Value} {d : DataW H} {ps : List MemPlace} {base : Nat}
set_option maxRecDepth 100000 in
theorem arg_cos (hv : Value.okWide Tryd.prog w .any base 22 v) (h : DataW.Trod en Tryd.prog w 0 (fun _ => true) true 22 v d ps) (hw : ∀ n ∈ d.weights Tryd.prog 22, n ≤ reachBytes) :
  ∃ xs, Hcs w v xs ∧ xs.length * 80 ≤ reachBytes ∧ ∀ x ∈ xs, CoIn w x := by
 obtain ⟨u, xs, hs, hb, hl, hq⟩ := rd_cos.arg h hw
 obtain ⟨a, m, c, rfl⟩ := okWide_slice Tryd.underlying22 hv
 simp [Value.cells] at hs
 subst hs
 rw [bytes_co] at hl
 have hget : ∀ x ∈ xs, CoIn w x := fun x hx => by
  obtain ⟨i, hi⟩ := List.mem_iff_getElem?.1 hx
  exact hq i x hi
 exact ⟨xs, ⟨hb, fun x hx => (hget x hx).at_⟩, hl, hget⟩
set_option maxRecDepth 100000 in
theorem arg_ints (hv : Value.okWide Tryd.prog w .any base 23 v) (h : DataW.Trod en Tryd.prog w 0 (fun _ => true) true 23 v d ps) (hw : ∀ n ∈ d.weights Tryd.prog 23, n ≤ reachBytes) :
  ∃ xs, Sl w i1C 1 v xs := by
 obtain ⟨u, xs, hs, hb, hl, _⟩ := rd_ints.arg h hw
 obtain ⟨a, m, c, rfl⟩ := okWide_slice Tryd.underlying23 hv
 simp [Value.cells] at hs
 subst hs
 exact ⟨xs, hb⟩
theorem len_ints {xs : List Int} (h : DataW.Trod en Tryd.prog w 0 (fun _ => true) true 23 v d ps) (hs : Sl w i1C 1 v xs) : xs.length ≤ Rows.uptoBulk d := by
 obtain ⟨A, c, rfl, _⟩ := hs.lens
 obtain ⟨fuel, hf⟩ := h
 exact bulk_slice Tryd.underlying23 hf
theorem len_cos {xs : List CoV} (h : DataW.Trod en Tryd.prog w 0 (fun _ => true) true 22 v d ps) (hs : Hcs w v xs) : xs.length ≤ Rows.uptoBulk d := by
 obtain ⟨A, c, rfl, _⟩ := hs.sl.lens
 obtain ⟨fuel, hf⟩ := h
 exact bulk_slice Tryd.underlying22 hf
end
end Go.Proofs.YtmehkigmnpjcjaaDoor
/- Arrays of three texts as arguments of this program. No condition. -/
namespace Go.Proofs.YtmehkigmnpjcjaaDoor
open Go.RowKit Go.Fw Go.WideShapes Go.ChangeShapes Go.ChangeAt Go.Deep
theorem rd_strs3 : RdW Tryd.prog 24 (fun w cs => ∃ a b c : ByteArray, cs = [.string a, .string b, .string c] ∧ a.size ≤ reachBytes ∧ b.size ≤ reachBytes ∧ c.size ≤ reachBytes) :=
 (RdW.array1 Tryd.underlying24 kr_ kr_ (RdW.string Tryd.underlying9)).mono fun w cs ⟨hl, hg⟩ => by
  match cs, hl, hg with
  | [v0, v1, v2], _, hg =>
   obtain ⟨a, h0, hs0⟩ := hg 0 v0 rfl
   obtain ⟨b, h1, hs1⟩ := hg 1 v1 rfl
   obtain ⟨c, h2, hs2⟩ := hg 2 v2 rfl
   cases h0; cases h1; cases h2
   exact ⟨a, b, c, rfl, hs0, hs1, hs2⟩
section
variable {H : Type} {en : TypeId × Value → H} {w : World} {v : Value} {d : DataW H} {ps : List MemPlace} {base : Nat}
set_option maxRecDepth 100000 in
theorem arg_strs3 (hv : Value.okWide Tryd.prog w .any base 24 v) (h : DataW.Trod en Tryd.prog w 0 (fun _ => true) true 24 v d ps) (hw : ∀ n ∈ d.weights Tryd.prog 24, n ≤ reachBytes) :
  ∃ a b c : ByteArray, v = .agg #[.string a, .string b, .string c] ∧ a.size ≤ reachBytes ∧ b.size ≤ reachBytes ∧ c.size ≤ reachBytes := by
 obtain ⟨a, b, c, hs, hr⟩ := rd_strs3.arg h hw
 obtain ⟨cs, rfl, _⟩ := okWide_arrH Tryd.underlying24 hv
 refine ⟨a, b, c, ?_, hr⟩
 have : cs.toList = [.string a, .string b, .string c] := by simpa [Value.cells] using hs
 congr 1
 exact Array.ext' (by simpa using this)
end
end Go.Proofs.YtmehkigmnpjcjaaDoor
/- Edit scripts, plainly: least costs, the script, its operations; whom bytes come of. No condition; no program. -/
namespace Go.Fu
open Go.Pl Go.Fw
def cstAux (x : UInt8) (f : List UInt8 → Nat) (m : Nat) : List UInt8 → Nat
 | [] => m
 | y :: b => if x = y then f b else 1 + min (f (y :: b)) (cstAux x f m b)
def cst : List UInt8 → List UInt8 → Nat
 | [] => fun b => b.length
 | x :: a => cstAux x (cst a) (a.length + 1)
theorem cst_nil (b : List UInt8) : cst [] b = b.length := rfl
theorem cst_end (a : List UInt8) : cst a [] = a.length := by cases a <;> rfl
theorem cst_cons (x y : UInt8) (a b : List UInt8) : cst (x :: a) (y :: b) = if x = y then cst a b else 1 + min (cst a (y :: b)) (cst (x :: a) b) := rfl
theorem cst_le : ∀ (a b : List UInt8), cst a b ≤ a.length + b.length
 | [], b => by rw [cst_nil]; simp
 | x :: a, b => by
  induction b with
  | nil => rw [cst_end]; simp
  | cons y b ih =>
   rw [cst_cons]
   have h1 := cst_le a b
   have h2 := cst_le a (y :: b)
   simp only [List.length_cons] at *
   split <;> omega
inductive Stp where
 | keep
 | cut
 | put (y : UInt8)
def Stp.kind : Stp → Nat
 | .keep => 1
 | .cut => 2
 | .put _ => 3
def stpAux (x : UInt8) (a : List UInt8) (f : List UInt8 → List Stp) : List UInt8 → List Stp
 | [] => .cut :: f []
 | y :: b => if x = y then .keep :: f b else if cst a (y :: b) ≤ cst (x :: a) b then .cut :: f (y :: b) else .put y :: stpAux x a f b
def stp : List UInt8 → List UInt8 → List Stp
 | [] => fun b => b.map .put
 | x :: a => stpAux x a (stp a)
theorem stp_nil (b : List UInt8) : stp [] b = b.map .put := rfl
theorem stp_end (x : UInt8) (a : List UInt8) : stp (x :: a) [] = .cut :: stp a [] := rfl
theorem stp_cons (x y : UInt8) (a b : List UInt8) : stp (x :: a) (y :: b) = if x = y then .keep :: stp a b else if cst a (y :: b) ≤ cst (x :: a) b then .cut :: stp a (y :: b) else .put y :: stp (x :: a) b := rfl
structure EdD where
 kind : Nat
 n : Nat
 text : List UInt8
def EdD.more (e : EdD) : Stp → EdD
 | .put y => ⟨e.kind, e.n, e.text ++ [y]⟩
 | _ => ⟨e.kind, e.n + 1, e.text⟩
def openE (l : List EdD) (k : Nat) : List EdD := if l.getLast?.map EdD.kind = some k then l else l ++ [⟨k, 0, []⟩]
theorem openE_last (l : List EdD) (k : Nat) : ∃ e, (openE l k)[(openE l k).length - 1]? = some e ∧ e.kind = k := by
 unfold openE
 split
 ·
  rename_i h
  rw [List.getLast?_eq_getElem?] at h
  obtain ⟨e, he, hk⟩ := Option.map_eq_some_iff.1 h
  exact ⟨e, he, hk⟩
 ·
  exact ⟨⟨k, 0, []⟩, by simp, rfl⟩
def addE (l : List EdD) (s : Stp) : List EdD := (openE l s.kind).modify ((openE l s.kind).length - 1) fun e => e.more s
theorem addE_length (l : List EdD) (s : Stp) : (addE l s).length = (openE l s.kind).length := by simp [addE]
theorem openE_length (l : List EdD) (k : Nat) : (openE l k).length ≤ l.length + 1 ∧ l.length ≤ (openE l k).length := by
 unfold openE; split <;> simp
def scriptE (a b : List UInt8) : List EdD := (stp a b).foldl addE []
def EdD.over (e : EdD) : Nat := if e.kind = 3 then 0 else e.n
def overE (l : List EdD) : Nat := (l.map EdD.over).sum
def Stp.over : Stp → Nat
 | .put _ => 0
 | _ => 1
def EdD.cost (e : EdD) : Nat := if e.kind = 1 then 0 else e.n + e.text.length
def costE (l : List EdD) : Nat := (l.map EdD.cost).sum
def Stp.cost : Stp → Nat
 | .keep => 0
 | _ => 1
def EdD.May (e : EdD) : Prop := (e.kind = 1 ∨ e.kind = 2) ∧ 0 < e.n ∧ e.text = [] ∨ e.kind = 3 ∧ e.n = 0 ∧ e.text ≠ []
theorem sum_modify {f : EdD → Nat} {g : EdD → EdD} : ∀ {l : List EdD} {i : Nat} {e : EdD}, l[i]? = some e → ((l.modify i g).map f).sum + f e = (l.map f).sum + f (g e)
 | [], i, e, h => by simp at h
 | x :: r, 0, e, h => by
  simp at h; subst h
  simp only [List.modify_zero_cons, List.map_cons, List.sum_cons]; omega
 | x :: r, i + 1, e, h => by
  simp only [List.getElem?_cons_succ] at h
  have := sum_modify (f := f) (g := g) h
  simp only [List.modify_succ_cons, List.map_cons, List.sum_cons]; omega
theorem openE_over (l : List EdD) (k : Nat) : overE (openE l k) = overE l := by
 unfold openE overE
 split
 ·
  rfl
 ·
  simp [EdD.over]
theorem openE_cost (l : List EdD) (k : Nat) : costE (openE l k) = costE l := by
 unfold openE costE
 split
 ·
  rfl
 ·
  simp [EdD.cost]
theorem addE_over (l : List EdD) (s : Stp) : overE (addE l s) = overE l + s.over := by
 obtain ⟨e, he, hk⟩ := openE_last l s.kind
 have h := sum_modify (f := EdD.over) (g := fun e => e.more s) he
 have h2 := openE_over l s.kind
 unfold overE at h2 ⊢
 unfold addE
 have h3 : (e.more s).over = e.over + s.over := by
  cases s <;> simp [EdD.more, EdD.over, Stp.over, Stp.kind] at hk ⊢ <;> simp [hk]
 omega
theorem addE_cost (l : List EdD) (s : Stp) : costE (addE l s) = costE l + s.cost := by
 obtain ⟨e, he, hk⟩ := openE_last l s.kind
 have h := sum_modify (f := EdD.cost) (g := fun e => e.more s) he
 have h2 := openE_cost l s.kind
 unfold costE at h2 ⊢
 unfold addE
 have h3 : (e.more s).cost = e.cost + s.cost := by
  cases s <;> simp [EdD.more, EdD.cost, Stp.cost, Stp.kind] at hk ⊢ <;> simp [hk] <;> omega
 omega
theorem foldE_over (l : List EdD) (ss : List Stp) : overE (ss.foldl addE l) = overE l + (ss.map Stp.over).sum := by
 induction ss generalizing l with
 | nil => simp
 | cons s r ih => rw [List.foldl_cons, ih, addE_over]; simp; omega
theorem foldE_cost (l : List EdD) (ss : List Stp) : costE (ss.foldl addE l) = costE l + (ss.map Stp.cost).sum := by
 induction ss generalizing l with
 | nil => simp
 | cons s r ih => rw [List.foldl_cons, ih, addE_cost]; simp; omega
theorem stp_over : ∀ (a b : List UInt8), ((stp a b).map Stp.over).sum = a.length
 | [], b => by
  rw [stp_nil]
  induction b with
  | nil => rfl
  | cons y b ih => simpa [Stp.over] using ih
 | x :: a, b => by
  induction b with
  | nil => rw [stp_end, List.map_cons, List.sum_cons, stp_over a []]; simp [Stp.over]; omega
  | cons y b ih =>
   rw [stp_cons]
   split
   ·
    rw [List.map_cons, List.sum_cons, stp_over a b]; simp [Stp.over]; omega
   ·
    split
    ·
     rw [List.map_cons, List.sum_cons, stp_over a (y :: b)]; simp [Stp.over]; omega
    ·
     rw [List.map_cons, List.sum_cons, ih]; simp [Stp.over]
theorem script_over (a b : List UInt8) : overE (scriptE a b) = a.length := by
 rw [scriptE, foldE_over, stp_over]; simp [overE]
theorem stp_cost : ∀ (a b : List UInt8), ((stp a b).map Stp.cost).sum = cst a b
 | [], b => by
  rw [stp_nil, cst_nil]
  induction b with
  | nil => rfl
  | cons y b ih => simp [Stp.cost] at ih ⊢; omega
 | x :: a, b => by
  induction b with
  | nil => rw [stp_end, List.map_cons, List.sum_cons, stp_cost a [], cst_end, cst_end]; simp [Stp.cost]; omega
  | cons y b ih =>
   rw [stp_cons, cst_cons]
   split
   ·
    rw [List.map_cons, List.sum_cons, stp_cost a b]; simp [Stp.cost]
   ·
    split
    ·
     rw [List.map_cons, List.sum_cons, stp_cost a (y :: b)]; simp [Stp.cost]; omega
    ·
     rw [List.map_cons, List.sum_cons, ih]; simp [Stp.cost]; omega
theorem script_cost (a b : List UInt8) : costE (scriptE a b) = cst a b := by
 rw [scriptE, foldE_cost, stp_cost]; simp [costE]
theorem stp_length (a b : List UInt8) : (stp a b).length ≤ a.length + b.length := by
 induction a generalizing b with
 | nil => rw [stp_nil]; simp
 | cons x a iha =>
  induction b with
  | nil => rw [stp_end]; have := iha []; simp at this ⊢; omega
  | cons y b ih =>
   rw [stp_cons]
   have h1 := iha b
   have h2 := iha (y :: b)
   simp only [List.length_cons] at *
   split
   ·
    simp only [List.length_cons]; omega
   ·
    split <;> simp only [List.length_cons] <;> omega
theorem foldE_length (l : List EdD) (ss : List Stp) : (ss.foldl addE l).length ≤ l.length + ss.length := by
 induction ss generalizing l with
 | nil => simp
 | cons s r ih =>
  rw [List.foldl_cons]
  have h1 := ih (addE l s)
  have h2 := addE_length l s
  have h3 := (openE_length l s.kind).1
  rw [List.length_cons]; omega
theorem script_length (a b : List UInt8) : (scriptE a b).length ≤ a.length + b.length := by
 have h1 := foldE_length [] (stp a b)
 have h2 := stp_length a b
 simp only [List.length_nil] at h1
 unfold scriptE; omega
theorem addE_may {l : List EdD} (h : ∀ e ∈ l, e.May) (s : Stp) : ∀ e ∈ addE l s, e.May := by
 have hin : ∀ e ∈ openE l s.kind, e.May ∨ e = ⟨s.kind, 0, []⟩ := fun e he => by
  unfold openE at he
  split at he
  ·
   exact .inl (h e he)
  ·
   rcases List.mem_append.1 he with he | he
   ·
    exact .inl (h e he)
   ·
    simp at he; exact .inr he
 intro e he
 obtain ⟨i, hi⟩ := List.mem_iff_getElem?.1 he
 unfold addE at hi
 rw [List.getElem?_modify] at hi
 obtain ⟨x, hx, rfl⟩ := Option.map_eq_some_iff.1 hi
 by_cases hl : (openE l s.kind).length - 1 = i
 ·
  rw [if_pos hl]
  obtain ⟨y, hy, hk⟩ := openE_last l s.kind
  rw [hl, hx] at hy
  obtain rfl := Option.some.inj hy
  rcases hin x (List.mem_of_getElem? hx) with hm | rfl
  ·
   cases s <;> simp [Stp.kind] at hk <;> unfold EdD.May EdD.more at * <;> simp_all
  ·
   cases s <;> unfold EdD.May EdD.more <;> simp [Stp.kind]
 ·
  rw [if_neg hl]
  rcases hin x (List.mem_of_getElem? hx) with hm | rfl
  ·
   exact hm
  ·
   exfalso
   unfold openE at hx hl
   split at hx
   ·
    rename_i hc
    have hm := h _ (List.mem_of_getElem? hx)
    unfold EdD.May at hm
    simp at hm
   ·
    rename_i hc
    rw [if_neg hc] at hl
    have hm : ∀ e ∈ l, e.May := h
    rw [List.getElem?_append] at hx
    split at hx
    ·
     have := h _ (List.mem_of_getElem? hx)
     unfold EdD.May at this
     simp at this
    ·
     have := (List.getElem?_eq_some_iff.1 hx).1
     simp at this hl
     omega
theorem script_may (a b : List UInt8) : ∀ e ∈ scriptE a b, e.May := by
 have : ∀ (ss : List Stp) (l : List EdD), (∀ e ∈ l, e.May) → ∀ e ∈ ss.foldl addE l, e.May := fun ss => by
  induction ss with
  | nil => exact fun l h => h
  | cons s r ih => exact fun l h => ih _ (addE_may h s)
 exact this _ [] (fun e h => by cases h)
structure OpsSt where
 at_ : Nat
 kept : Nat
 out : List OpD
def insOps (g : RefD × Bool × Bool) (n : Nat) (s : List UInt8) : List OpD := s.mapIdx fun k b => if k = 0 then ⟨1, g.2.1, g.1, b⟩ else ⟨1, false, ⟨true, Dig.zero, ((n + k : Nat) : Int)⟩, b⟩
def cutOps (e : List El) (at_ n : Nat) : List OpD := (((seenE e).drop at_).take n).map fun q => ⟨2, false, nm e q, 0⟩
def edOps (e : List El) (s : OpsSt) (x : EdD) : OpsSt :=
 if x.kind = 1 then ⟨s.at_ + x.n, s.at_ + x.n, s.out⟩
 else if x.kind = 2 then ⟨s.at_ + x.n, s.kept, s.out ++ cutOps e s.at_ x.n⟩
 else ⟨s.at_, s.kept, s.out ++ insOps (gapE e (s.kept : Int)) s.out.length x.text⟩
def opsE (e : List El) (b : List UInt8) : List OpD := ((scriptE (textE e) b).foldl (edOps e) ⟨0, 0, []⟩).out
structure RuD where
 c : Dig
 n : Nat
noncomputable def addR (l : List RuD) (d : Dig) : List RuD := if l.getLast?.map RuD.c = some d then l.modify (l.length - 1) fun r => ⟨r.c, r.n + 1⟩ else l ++ [⟨d, 1⟩]
noncomputable def blameE (e : List El) : List RuD := ((seenE e).map fun q => (nm e q).c).foldl addR []
end Go.Fu
