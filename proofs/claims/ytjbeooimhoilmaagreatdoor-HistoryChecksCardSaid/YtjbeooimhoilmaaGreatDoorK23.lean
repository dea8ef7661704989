/- Parts of a proof: what its last text leans on. No condition. -/
import Derived.Laws.IdiomStrings
import Derived.Test.YtjbeooimhoilmaaGreatDoorK02
import Derived.Test.YtjbeooimhoilmaaGreatDoorK06
import Derived.Test.YtjbeooimhoilmaaGreatDoorK07
import Derived.Test.YtjbeooimhoilmaaGreatDoorK09
import Derived.Test.YtjbeooimhoilmaaGreatDoorK12
import Derived.Test.YtjbeooimhoilmaaGreatDoorK18
import Derived.Test.YtjbeooimhoilmaaGreatDoorK21
import Derived.Test.YtjbeooimhoilmaaGreatDoorK22
set_option linter.unusedSimpArgs false
set_option linter.unusedVariables false
/- A version's tree, its text; two versions merged: Tree, Text, Merge, walked. No condition but the table of digest.keys. -/
namespace Go.Proofs.YtjbeooimhoilmaaGreatDoor
open Go.RowKit Go.Fw Go.Pl Go.Sort Go.Fu
theorem mark_at {P : List ComD} (hk : HOk P) (hl : P.length ≤ 200) {ids : List Dig} (hin : ∀ d ∈ ids, d ∈ idsH P) {k : Nat} {c : ComD} (hc : P[k]? = some c) {cu : Bool} (h : (markF (ndsH P) ids)[k]? = some cu) : cu = true ↔ Under (ndsH P) ids (idD c) := by
 have hn := hk.nodes hl
 have h1 := ixN_at hn (nds_at hc)
 have h2 : bitAt (markF (ndsH P) ids) (ndsH P) (idD c) = true ↔ _ := markF_bit hn (fun d hd => by rw [ids_nds]; exact hin d hd) (by rw [ids_nds]; exact List.mem_map.2 ⟨c, List.mem_of_getElem? hc, rfl⟩)
 rw [← h2, bit_iff]
 simp only [ndH] at h1
 rw [h1, h]
 simp
theorem wrongQ_tx {P : List ComD} (h : (rdH P).2 = 0) {ids : List Dig} : wrongQ (ndsH P) ids = txE P ids := by
 obtain ⟨h1, h2⟩ := rdH_ok.1 h
 unfold wrongQ txE
 have h3 : ¬ (rdH P).2 ≠ 0 := fun hh => hh h
 rw [if_neg (by rw [h2.nodes h1]; decide), ids_nds, if_neg h3]
structure TrAt (w w' : World) (g rb ra : Nat) (ns : List Nn) (T : Tr) : Prop where
 ft : FtAt w' g rb ra T.ad ns
 els : Fw.els ns = T.e
 new : ∀ q, Fp g rb ra ns q → w.heap.size ≤ q
theorem TrAt.ext {w w' w2 : World} {g rb ra : Nat} {ns : List Nn} {T : Tr} (h : TrAt w w' g rb ra ns T) (hc : Ext w' w2) : TrAt w w2 g rb ra ns T := ⟨h.ft.ext hc, h.els, h.new⟩
theorem TrAt.len {w w' : World} {g rb ra : Nat} {ns : List Nn} {T : Tr} (h : TrAt w w' g rb ra ns T) : T.e.length = ns.length := by rw [← h.els]; exact List.length_map _
set_option maxRecDepth 100000 in
set_option maxHeartbeats 4000000 in
theorem htree_any (u v0 : Value) (l : List CoV) (ids : List Dig) (w : World) (hl : Hcs w u l) (hd : Sl w digC 32 v0 ids) (hK : Mem w ⟨0, 0, none⟩ (wds keysL)) : Calls Tryz.prog 16 #[u, v0] w (Ret fun v w' => ∃ p, v = .tuple #[.pointer p, .int .i64 (txE (csL l) ids)] ∧ (txE (csL l) ids ≠ 0 → p = none) ∧ (txE (csL l) ids = 0 → ∃ g rb ra ns, p = some ⟨g, 0, none⟩ ∧ TrAt w w' g rb ra ns (trH (csL l) ids)) ∧ Ext w w') := by
 obtain ⟨A2, m2, c2, rfl, hlm, hmc, hcm, hlg⟩ := id hl.sl
 unfold maxLen at hcm
 obtain ⟨A1, m1, c1, rfl, hdm, hdc, hdx, hdg⟩ := id hd
 unfold maxLen at hdx
 obtain ⟨ci_, hci, hcz, hcs⟩ := info_apiCommitH
 have hcl : (csL l).length = m2 := by rw [List.length_map]; exact hlm
 refine calls_of_CW 75 [4, 5] [(0, .slice A2 m2 c2), (1, .slice A1 m1 c1)] Tryz.func16 rfl rfl rfl (by simp) args2 ?_
 have hE : Ext w w := Chg.refl
 refine CW.sr fun K1 hK1 => ?_
 refine WL.a rfl ?_
 refine WL.a rfl ?_
 refine WL.nil (hK1 _ _ ?_); try clear hK1 K1
 refine CW.sr fun K2 hK2 => ?_
 refine WL.m rfl ?_
 refine WL.call Tryz.func25 rfl rfl rfl (hread_any _ l _ hl hK) (by simp) ?_; rintro v20 w1 hR1
 obtain ⟨A, c, r, cl, ys, kk, rfl, hQ, hP, hr, hkk, hx1⟩ := hR1
 have hz1 := hx1.size
 have hE0 := hx1
 clear hE
 have hE : Ext w1 w1 := Chg.refl
 refine WL.m rfl ?_
 refine WL.v (Y.extract rfl rfl) ?_
 refine WL.v (Y.extract rfl rfl) ?_
 refine WL.v (Y.extract rfl rfl) ?_
 refine as_historypast rfl (by simp) (by decide) fun g6 w2 hx2 hg6 hB6 => ?_
 have hlt6 := hB6.lt; have hz2 := hx2.size
 have hM6 := hB6.mem; have hz2 := hx2.size; have hE := hE.thenExt hx2
 refine WL.a rfl ?_
 refine WL.a rfl ?_
 refine WL.nil (hK2 _ _ ?_); try clear hK2 K2
 refine CW.seq fun K3 hK3 => ?_
 refine CW.sr fun K4 hK4 => ?_
 refine WL.m rfl ?_
 refine WL.v (Y.neq rfl rfl) ?_
 refine WL.nil (hK4 _ _ ?_); try clear hK4 K4
 (first | refine CW.condD rfl ?_ ?_ | refine CW.condND rfl ?_ ?_ | refine CW.condN rfl ?_ ?_ | refine CW.cond rfl ?_ ?_) <;> intro ht5
 ·
  -- then
  refine CW.sr fun K6 hK6 => ?_
  refine WL.m rfl ?_
  refine WL.a rfl ?_
  refine WL.a rfl ?_
  refine WL.nil (hK6 _ _ ?_); try clear hK6 K6
  refine CW.ret ⟨_, rfl, ?_⟩
  have he : txE (csL l) ids = (rdH (csL l)).2 := by rw [txE, if_pos (by assumption)]
  exact ⟨none, by rw [he]; rfl, fun _ => rfl, fun h => absurd (he.symm.trans h) (by assumption), hE0.thenExt hE⟩
 refine CW.skip ?_
 refine hK3 _ _ ?_; try clear hK3 K3
 refine CW.seq fun K7 hK7 => ?_
 refine CW.seq fun K8 hK8 => ?_
 have h0 : (rdH (csL l)).2 = 0 := Decidable.not_not.1 (by assumption)
 obtain ⟨hl200, hok⟩ := rdH_ok.1 h0
 have hP : PaAt w1 A c r cl ys (csL l) := by
  rw [hkk h0, List.take_of_length_le (by rw [List.length_map]; exact Nat.le_refl _)] at hP
  exact hP
 have hyl := hP.len
 refine CW.region ?_
 refine WL.m rfl ?_
 refine WL.v (Y.len_slice Tryz.underlying24 rfl) ?_
 refine WL.m rfl ?_
 refine WL.nil (hK8 _ _ ?_); try clear hK8 K8
 refine CW.block ?_
 refine CW.loop (X := Nat) (fun x => [(0, .slice A2 m2 c2), (6, .pointer (some ⟨g6, 0, none⟩)), (1, .slice A1 m1 c1), (27, .slice A1 m1 c1), (28, .int .i64 (m1 : Int)), (29, .int .i64 (x : Int))]) (fun x w0 => x ≤ m1 ∧ (∀ (i : Nat) (d : Dig), i < x → ids[i]? = some d → d ∈ idsH (csL l)) ∧ Ext w1 w0 ∧ Blk w0 g6 TPa (paC A ys.length c r) ∧ w2.heap.size ≤ w0.heap.size) (fun x => m1 - x) 0 Fr.ok ⟨Nat.zero_le _, (fun i d h => by omega), hE, hB6, Nat.le_refl _⟩ ?_
 intro x w3 hl3
 clear hE hB6
 obtain ⟨hxm, hpi, hE, hB6, hz3⟩ := hl3
 have hzE := hE.size
 refine CW.sr fun K9 hK9 => ?_
 refine WL.v (Y.lss rfl rfl) ?_
 refine WL.nil (hK9 _ _ ?_); try clear hK9 K9
 refine CW.seq fun K10 hK10 => ?_
 (first | refine CW.condD rfl ?_ ?_ | refine CW.condND rfl ?_ ?_ | refine CW.condN rfl ?_ ?_ | refine CW.cond rfl ?_ ?_) <;> intro ht11
 ·
  -- then
  refine CW.skip ?_
  refine hK10 _ _ ?_; try clear hK10 K10
  refine CW.seq fun K12 hK12 => ?_
  refine CW.block ?_
  refine CW.seq fun K13 hK13 => ?_
  obtain ⟨d, hdd⟩ : ∃ d, ids[x]? = some d := ⟨_, List.getElem?_eq_getElem (by omega)⟩
  obtain ⟨a, rfl, hma⟩ := hdg _ _ hdd
  refine CW.region ?_
  refine WL.v (Y.indexAddrN Tryz.underlying24 rfl rfl sz0_apiDigest (by omega)) ?_
  refine WL.v (Y.load Tryz.underlying43 rfl (hma.ext (hE0.thenExt hE)) (sz_apiDigest _) rfl) ?_
  refine as_apiDigest rfl (by simp) (by decide) fun g10 w4 hx4 hg10 hB10 => ?_
  have hlt10 := hB10.lt; have hz4 := hx4.size
  have hM10 := hB10.mem; have hz4 := hx4.size; have hE := hE.thenExt hx4; have hB6 := hB6.ext hx4
  refine WL.nil (hK13 _ _ ?_); try clear hK13 K13
  refine CW.sr fun K14 hK14 => ?_
  refine WL.v (Y.fieldAddr fo_historypast1 rfl) ?_
  refine WL.v (Y.load1 Tryz.underlying72 rfl hB6.mem.historypast1 rfl) ?_
  refine WL.v (Y.load Tryz.underlying43 rfl hB10.mem (sz_apiDigest _) rfl) ?_
  refine WL.v (Y.lookupK rfl rfl (hP.map.ext hE)) ?_
  refine WL.m rfl ?_
  refine WL.v (Y.extract rfl rfl) ?_
  refine WL.v (Y.extract rfl rfl) ?_
  refine WL.a rfl ?_
  refine WL.a rfl ?_
  refine WL.nil (hK14 _ _ ?_); try clear hK14 K14
  refine CW.sr fun K15 hK15 => ?_
  refine WL.m rfl ?_
  refine WL.v (Y.not rfl) ?_
  refine WL.nil (hK15 _ _ ?_); try clear hK15 K15
  (first | refine CW.condD rfl ?_ ?_ | refine CW.condND rfl ?_ ?_ | refine CW.condN rfl ?_ ?_ | refine CW.cond rfl ?_ ?_) <;> intro ht16
  ·
   -- then
   refine CW.sr fun K17 hK17 => ?_
   refine WL.a rfl ?_
   refine WL.a rfl ?_
   refine WL.nil (hK17 _ _ ?_); try clear hK17 K17
   refine CW.ret ⟨_, rfl, ?_⟩
   have he : txE (csL l) ids = 5 := by rw [txE, if_neg (by omega), if_pos ⟨d, List.mem_of_getElem? hdd, by assumption⟩]
   exact ⟨none, by rw [he], fun _ => rfl, fun h => (by rw [he] at h; cases h), hE0.thenExt hE⟩
  refine CW.skip ?_
  refine hK12 _ _ ?_; try clear hK12 K12
  refine CW.region ?_
  refine WL.v (Y.add rfl rfl ⟨by omega, by omega⟩) ?_
  refine WL.m rfl ?_
  refine WL.nil ?_
  refine ⟨x + 1, by show m1 - (x + 1) < m1 - x; omega, Fr.ok, by show x + 1 ≤ m1; omega, ?_, hE, hB6, by omega⟩
  intro i q hi hq
  by_cases e : i < x
  ·
   exact hpi i q e hq
  ·
   have e2 : i = x := by omega
   subst e2
   rw [hdd] at hq; cases hq
   assumption
 refine CW.exit ?_
 refine hK7 _ _ ?_; try clear hK7 K7
 refine CW.seq fun K18 hK18 => ?_
 have hin : ∀ d ∈ ids, d ∈ idsH (csL l) := fun d hd => by
  obtain ⟨i, hi⟩ := List.mem_iff_getElem?.1 hd
  exact hpi i d (by have := (List.getElem?_eq_some_iff.1 hi).1; omega) hi
 have htx : txE (csL l) ids = 0 := txE_ok.2 ⟨hl200, hok, hin⟩
 refine CW.region ?_
 refine WL.v (Y.load Tryz.underlying74 rfl hB6.mem (sz_historypast _ _) rfl) ?_
 refine WL.m rfl ?_
 refine WL.call Tryz.func28 rfl rfl rfl (hbeneath_any A c r cl _ ys ids _ (hP.nds.ext hE) (by rw [hP.is]; exact hok.nodes hl200) (by rw [hP.is, ids_nds]; exact hP.map.ext hE) (hd.ext (hE0.thenExt hE)) (fun d hd => by rw [hP.is, ids_nds]; exact hin d hd)) (by simp) ?_; rintro v45 w5 hR5
 obtain ⟨ib, rfl, hib, hIn, hx5⟩ := hR5
 have hz5 := hx5.size
 have hE := hE.thenExt hx5
 have hB6 := hB6.ext hx5
 have hlti := hIn.lt
 rw [hP.is] at hIn
 refine as_historyversion rfl (by simp) (by decide) fun g13 w6 hx6 hg13 hB13 => ?_
 have hlt13 := hB13.lt; have hz6 := hx6.size
 have hM13 := hB13.mem; have hz6 := hx6.size; have hE := hE.thenExt hx6; have hB6 := hB6.ext hx6
 refine WL.nil (hK18 _ _ ?_); try clear hK18 K18
 refine CW.sr fun K19 hK19 => ?_
 refine WL.call Tryz.func29 rfl rfl rfl (fnew_any _) (by simp) ?_; rintro v46 w7 hR7
 obtain ⟨g, rb, ra, gn, rfl, hn1, hn2, hn3, hn4, hT, hx7⟩ := hR7
 have hz7 := hx7.size
 have hE := hE.thenExt hx7
 have hB6 := hB6.ext hx7
 have hB13 := hB13.ext hx7
 have hIn := (hIn.ext hx6).ext hx7
 refine WL.a rfl ?_
 refine WL.nil (hK19 _ _ ?_); try clear hK19 K19
 refine CW.seq fun K20 hK20 => ?_
 refine CW.sr fun K21 hK21 => ?_
 refine WL.m rfl ?_
 refine WL.v (Y.len_slice Tryz.underlying22 rfl) ?_
 refine WL.m rfl ?_
 refine WL.nil (hK21 _ _ ?_); try clear hK21 K21
 refine CW.block ?_
 refine CW.loop (X := Nat × List Nn) (fun x => [(0, .slice A2 m2 c2), (6, .pointer (some ⟨g6, 0, none⟩)), (13, .pointer (some ⟨g13, 0, none⟩)), (14, .pointer (some ⟨g, 0, none⟩)), (47, .slice A2 m2 c2), (48, .int .i64 (m2 : Int)), (49, .int .i64 (x.1 : Int))]) (fun x w0 => x.1 ≤ m2 ∧ FtAt w0 g rb ra (trK (csL l) (Under (ndsH (csL l)) ids) x.1).ad x.2 ∧ Fw.els x.2 = (trK (csL l) (Under (ndsH (csL l)) ids) x.1).e ∧ (∀ q, Fp g rb ra x.2 q → w6.heap.size ≤ q) ∧ Ext w1 w0 ∧ Blk w0 g6 TPa (paC A ys.length c r) ∧ Blk w0 g13 TVe (veC A ys.length c r ib) ∧ Blk w0 ib TBo (boolC (markF (ndsH (csL l)) ids)) ∧ w7.heap.size ≤ w0.heap.size) (fun x => m2 - x.1) (0, newN gn) Fr.ok ⟨Nat.zero_le _, hT, rfl, (fun q hq => by have := hq.ofNew; omega), hE, hB6, hB13, hIn, Nat.le_refl _⟩ ?_
 intro x w8 hl8
 clear hE hB6 hB13 hIn hT
 obtain ⟨k, ns⟩ := x
 dsimp only at hl8 ⊢
 obtain ⟨hkm, hT, hels, hfr, hE, hB6, hB13, hIn, hz8⟩ := hl8
 have hzE := hE.size
 have hTlt := fun q (hq : Fp g rb ra ns q) => hT.lt hq
 refine CW.sr fun K22 hK22 => ?_
 refine WL.v (Y.lss rfl rfl) ?_
 refine WL.nil (hK22 _ _ ?_); try clear hK22 K22
 refine CW.seq fun K23 hK23 => ?_
 (first | refine CW.condD rfl ?_ ?_ | refine CW.condND rfl ?_ ?_ | refine CW.condN rfl ?_ ?_ | refine CW.cond rfl ?_ ?_) <;> intro ht24
 ·
  -- then
  refine CW.skip ?_
  refine hK23 _ _ ?_; try clear hK23 K23
  obtain ⟨cx, hcx⟩ : ∃ cx, l[k]? = some cx := ⟨_, List.getElem?_eq_getElem (by omega)⟩
  have hco := hl.all cx (List.mem_of_getElem? hcx)
  obtain ⟨a2, rfl, hma2⟩ := hlg _ _ hcx
  obtain ⟨cm, pA, pca, oB, ocb⟩ := cx
  have hos := hco.os
  have hcc : (csL l)[k]? = some cm := cs_at hcx
  obtain ⟨y, hy⟩ : ∃ y, ys[k]? = some y := ⟨_, List.getElem?_eq_getElem (by omega)⟩
  obtain ⟨⟨yid, yps⟩, yA, yc⟩ := y
  obtain ⟨a3, rfl, hma3⟩ := hP.nds.sl.at hy
  have hyid : yid = idD cm := by
   have h1 : (ndsL ys)[k]? = some ⟨yid, yps⟩ := by simp [hy]
   rw [hP.is, List.getElem?_map, hcc] at h1
   injection h1 with h1
   exact (congrArg Nd.id h1).symm
  subst hyid
  obtain ⟨cu, hcu⟩ : ∃ b, (markF (ndsH (csL l)) ids)[k]? = some b := ⟨_, List.getElem?_eq_getElem (by rw [markF_length, List.length_map]; omega)⟩
  have hcS : cu = true ↔ Under (ndsH (csL l)) ids (idD cm) := mark_at hok hl200 hin hcc hcu
  have htk := trK_ok hok hl200 (closed_under (csL l) ids) (k := k) (by omega)
  have hTr : (⟨(trK (csL l) (Under (ndsH (csL l)) ids) k).ad, Fw.els ns⟩ : Tr) = (trK (csL l) (Under (ndsH (csL l)) ids) k) := by rw [hels]
  refine CW.seq_to (X := List Nn) (fun u => [(0, .slice (some a2) m2 c2), (6, .pointer (some ⟨g6, 0, none⟩)), (13, .pointer (some ⟨g13, 0, none⟩)), (14, .pointer (some ⟨g, 0, none⟩)), (47, .slice (some a2) m2 c2), (48, .int .i64 (m2 : Int)), (49, .int .i64 (k : Int))]) (fun u w0 => FtAt w0 g rb ra (trK (csL l) (Under (ndsH (csL l)) ids) (k + 1)).ad u ∧ Fw.els u = (trK (csL l) (Under (ndsH (csL l)) ids) (k + 1)).e ∧ (∀ q, Fp g rb ra u q → w6.heap.size ≤ q) ∧ Ext w1 w0 ∧ Blk w0 g6 TPa (paC (some a3) ys.length c r) ∧ Blk w0 g13 TVe (veC (some a3) ys.length c r ib) ∧ Blk w0 ib TBo (boolC (markF (ndsH (csL l)) ids)) ∧ w8.heap.size ≤ w0.heap.size) ?_ ?_
  ·
   skip
   refine CW.block ?_
   refine CW.seq fun K26 hK26 => ?_
   dsimp only [CoV.pv, CoV.ov, coC] at hos hma2
   refine CW.region ?_
   refine WL.m rfl ?_
   refine WL.v (Y.indexAddrN Tryz.underlying22 rfl rfl sz0_apiCommit (by omega)) ?_
   refine WL.v (Y.load Tryz.underlying48 rfl (hma2.ext (hE0.thenExt hE)) (sz_apiCommit _ _ _ _) rfl) ?_
   refine WL.alloc (hci) (hcz) rfl (by decide) fun g16 w9 hx9 hg16 hB16 => ?_
   have hlt16 := hB16.lt; have hz9 := hx9.size
   have hM16 := hB16.mem; have hz9 := hx9.size; have hE := hE.thenExt hx9; have hB6 := hB6.ext hx9; have hB13 := hB13.ext hx9
   refine WL.a rfl ?_
   refine WL.store (g := g16) (pre := []) (old := comC (.slice none 0 0) ByteArray.empty ByteArray.empty (.slice none 0 0)) (post := []) (new := (comC (.slice pA cm.parents.length pca) cm.author cm.note (.slice oB cm.ops.length ocb))) rfl rfl rfl rfl (sz_apiCommit _ _ _ _) (by simpa using hB16) (by first | rfl | (simp [digC_length, opC_length]; done) | (simp only [digC_length, opC_length]; omega)) (one4 rfl rfl rfl rfl) (fun w10 hc10 hB10_ => ?_)
   have hz10 := hc10.size; have hE := hE.step hc10 (fun k h => by omega); have hB6 := hB6.chg hc10 (fun h => by omega); have hB13 := hB13.chg hc10 (fun h => by omega)
   have hB16 : Blk w10 g16 48 (comC (.slice pA cm.parents.length pca) cm.author cm.note (.slice oB cm.ops.length ocb)) := by simpa using hB10_
   have hx810 : Ext w8 w10 := hx9.step hc10 (fun k h => by omega)
   have hT := hT.ext hx810
   have hIn := hIn.ext hx810
   refine WL.nil (hK26 _ _ ?_); try clear hK26 K26
   refine CW.seq fun K27 hK27 => ?_
   refine CW.sr fun K28 hK28 => ?_
   refine WL.v (Y.fieldAddr fo_historyversion1 rfl) ?_
   refine WL.v (Y.load1 Tryz.underlying81 rfl hB13.mem.historyversion1 rfl) ?_
   refine WL.m rfl ?_
   refine WL.v (Y.indexAddrN Tryz.underlying81 rfl rfl sz0_bool (by omega)) ?_
   refine WL.v (Y.load1 Tryz.underlying4 rfl (hIn.bcell hcu) rfl) ?_
   refine WL.v (Y.not rfl) ?_
   refine WL.nil (hK28 _ _ ?_); try clear hK28 K28
   (first | refine CW.condD rfl ?_ ?_ | refine CW.condND rfl ?_ ?_ | refine CW.condN rfl ?_ ?_ | refine CW.cond rfl ?_ ?_) <;> intro ht29
   ·
    -- then
    refine CW.exit ?_
    have hno : ¬ Under (ndsH (csL l)) ids (idD cm) := fun h => by rw [hcS.2 h] at ht29; cases ht29
    refine ⟨ns, Fr.ok, ?_, ?_, hfr, hE, hB6, hB13, hIn, by omega⟩ <;> rw [trK_no hcc hno] <;> assumption
   refine CW.skip ?_
   refine hK27 _ _ ?_; try clear hK27 K27
   refine CW.seq fun K30 hK30 => ?_
   refine CW.head 9 (by kernel_rfl) (by kernel_rfl) fun w11 hx11 => ?_
   skip; have hz11 := hx11.size; have hE := hE.thenExt hx11; have hB6 := hB6.ext hx11; have hB13 := hB13.ext hx11; have hB16 := hB16.ext hx11
   refine HL.val (Y.move rfl) (by decide) ?_
   refine HL.val (Y.fieldAddr fo_historypast0 rfl) (by decide) ?_
   refine HL.val (Y.load1 Tryz.underlying37 rfl hB6.mem.historypast0 rfl) (by decide) ?_
   refine HL.val (Y.move rfl) (by decide) ?_
   refine HL.val (Y.indexAddrN Tryz.underlying37 rfl rfl sz0_apiNode (by omega)) (by decide) ?_
   refine HL.val (Y.fieldAddr fo_apiNode0 rfl) (by decide) ?_
   refine HL.val (Y.load Tryz.underlying43 rfl ((hma3.ext hE)).node0 (sz_apiDigest _) rfl) (by decide) ?_
   refine HL.val (Y.fieldAddr fo_apiCommit3 rfl) (by decide) ?_
   refine HL.val (Y.load1 Tryz.underlying46 rfl hB16.mem.com3 rfl) (by decide) ?_
   refine HL.nil ?_
   refine WL.call Tryz.func30 rfl rfl rfl (fadd_any g rb ra (trK (csL l) (Under (ndsH (csL l)) ids) k).ad ns (idD cm) _ cm.ops (selS (Under (ndsH (csL l)) ids) ((csL l).take k)) _ (hT.ext hx11) (by rw [hTr]; exact htk) (hos.ext (hE0.thenExt hE)) (fun hne q hq => by
    have h1 := hos.own_lt opC_ne hne q hq
    have h2 := hx1.size
    exact ⟨by omega, fun h => by have := hfr q h; omega⟩)) (by simp) ?_; rintro v69 w12 hR12
   rw [hTr] at hR12
   obtain ⟨rfl, ns2, hT2, he2, hc12, hf2, _⟩ := hR12
   have hS := hcS.1 (by simpa using ht29)
   have hw0 : wrongC (trK (csL l) (Under (ndsH (csL l)) ids) k) (idD cm) cm.ops = 0 := sel_may hok hl200 (closed_under (csL l) ids) hcc hS htk
   have hz12 := hc12.size
   have hE := hE.step hc12 (fun q hq => by have := hfr q hq; omega)
   have hB6 := hB6.chg hc12 (fun h => by have := hfr _ h; omega)
   have hB13 := hB13.chg hc12 (fun h => by have := hfr _ h; omega)
   have hIn := (hIn.ext hx11).chg hc12 (fun h => by have := hfr _ h; omega)
   refine WL.a rfl ?_
   refine WL.nil (hK30 _ _ ?_); try clear hK30 K30
   refine CW.sr fun K31 hK31 => ?_
   refine WL.m rfl ?_
   refine WL.v (Y.neq rfl rfl) ?_
   refine WL.nil (hK31 _ _ ?_); try clear hK31 K31
   (first | refine CW.condD rfl ?_ ?_ | refine CW.condND rfl ?_ ?_ | refine CW.condN rfl ?_ ?_ | refine CW.cond rfl ?_ ?_) <;> intro ht32
   ·
    -- then
    refine CW.sr fun K33 hK33 => ?_
    refine WL.m rfl ?_
    refine WL.a rfl ?_
    refine WL.a rfl ?_
    refine WL.nil (hK33 _ _ ?_); try clear hK33 K33
    refine CW.ret ⟨_, rfl, ?_⟩
    exact absurd hw0 (by assumption)
   refine CW.skip ?_
   refine ⟨ns2, Fr.ok, ?_, ?_, fun q hq => ?_, hE, hB6, hB13, hIn, by omega⟩
   ·
    rw [trK_yes hcc hS]; exact hT2
   ·
    rw [trK_yes hcc hS]; exact he2
   ·
    rcases hf2 q hq with h | h
    ·
     exact hfr q h
    ·
     omega
  rintro u w13 hj13
  clear hE hB6 hB13 hIn hT
  obtain ⟨hT, hels2, hfr2, hE, hB6, hB13, hIn, hz9⟩ := hj13
  refine CW.region ?_
  refine WL.v (Y.add rfl rfl ⟨by omega, by omega⟩) ?_
  refine WL.m rfl ?_
  refine WL.nil ?_
  exact ⟨(k + 1, u), by show m2 - (k + 1) < m2 - k; omega, Fr.ok, by show k + 1 ≤ m2; omega, hT, hels2, hfr2, hE, hB6, hB13, hIn, by omega⟩
 refine CW.exit ?_
 refine hK20 _ _ ?_; try clear hK20 K20
 refine CW.sr fun K34 hK34 => ?_
 refine WL.m rfl ?_
 refine WL.a rfl ?_
 refine WL.a rfl ?_
 refine WL.nil (hK34 _ _ ?_); try clear hK34 K34
 refine CW.ret ⟨_, rfl, ?_⟩
 have hkl : k = (csL l).length := by omega
 subst hkl
 exact ⟨_, by rw [htx], fun h => absurd htx h, fun _ => ⟨g, rb, ra, ns, rfl, hT, hels, (fun q hq => by have := hfr q hq; omega)⟩, hE0.thenExt hE⟩
theorem htext_any (u v0 : Value) (l : List CoV) (ids : List Dig) (w : World) (hl : Hcs w u l) (hd : Sl w digC 32 v0 ids) (hK : Mem w ⟨0, 0, none⟩ (wds keysL)) : Calls Tryz.prog 15 #[u, v0] w (Ret fun v w' => v = .tuple #[.string (bs (txL (csL l) ids)), .int .i64 (txE (csL l) ids)] ∧ Ext w w') := by
 refine calls_of_CW 19 [4, 5] [(0, u), (1, v0)] Tryz.func15 rfl rfl rfl (by simp) args2 ?_
 have hE : Ext w w := Chg.refl
 refine CW.sr fun K1 hK1 => ?_
 refine WL.a rfl ?_
 refine WL.a rfl ?_
 refine WL.nil (hK1 _ _ ?_); try clear hK1 K1
 refine CW.sr fun K2 hK2 => ?_
 refine WL.m rfl ?_
 refine WL.m rfl ?_
 refine WL.call Tryz.func16 rfl rfl rfl (htree_any _ _ l ids _ hl hd hK) (by simp) ?_; rintro v11 w1 hR1
 obtain ⟨p, rfl, hbad, hgood, hx1⟩ := hR1
 have hz1 := hx1.size
 have hE := hE.thenExt hx1
 refine WL.m rfl ?_
 refine WL.v (Y.extract rfl rfl) ?_
 refine WL.v (Y.extract rfl rfl) ?_
 refine WL.a rfl ?_
 refine WL.a rfl ?_
 refine WL.nil (hK2 _ _ ?_); try clear hK2 K2
 refine CW.seq fun K3 hK3 => ?_
 refine CW.sr fun K4 hK4 => ?_
 refine WL.m rfl ?_
 refine WL.v (Y.neq rfl rfl) ?_
 refine WL.nil (hK4 _ _ ?_); try clear hK4 K4
 (first | refine CW.condD rfl ?_ ?_ | refine CW.condND rfl ?_ ?_ | refine CW.condN rfl ?_ ?_ | refine CW.cond rfl ?_ ?_) <;> intro ht5
 ·
  -- then
  refine CW.sr fun K6 hK6 => ?_
  refine WL.m rfl ?_
  refine WL.a rfl ?_
  refine WL.a rfl ?_
  refine WL.nil (hK6 _ _ ?_); try clear hK6 K6
  refine CW.ret ⟨_, rfl, ?_⟩
  exact ⟨by rw [txL, if_neg (by assumption)]; rfl, hE⟩
 refine CW.skip ?_
 refine hK3 _ _ ?_; try clear hK3 K3
 refine CW.seq fun K7 hK7 => ?_
 have h0 : txE (csL l) ids = 0 := Decidable.not_not.1 (by assumption)
 obtain ⟨g, rb, ra, ns, rfl, hT⟩ := hgood h0
 have hok := txE_ok.1 h0
 have htr := trH_ok hok.2.1 hok.1 ids
 refine CW.region ?_
 refine WL.m rfl ?_
 refine WL.call Tryz.func19 rfl rfl rfl (ftext_any g rb ra _ ns _ hT.ft (by rw [hT.els]; exact htr.good) (by rw [← hT.len]; exact htr.few)) (by simp) ?_; rintro v w2 ⟨rfl, hx2⟩; have hz2 := hx2.size; have hE := hE.thenExt hx2
 refine WL.a rfl ?_
 refine WL.a rfl ?_
 refine WL.nil (hK7 _ _ ?_); try clear hK7 K7
 refine CW.ret ⟨_, rfl, ?_⟩
 exact ⟨by rw [txL, if_pos h0, h0, hT.els], hE⟩
theorem hmerge_any (u v0 v1 : Value) (l : List CoV) (a b : List Dig) (w : World) (hl : Hcs w u l) (ha : Sl w digC 32 v0 a) (hb : Sl w digC 32 v1 b) (hp : (a.length + b.length) * 32 ≤ 140737488355328) (hK : Mem w ⟨0, 0, none⟩ (wds keysL)) : Calls Tryz.prog 7 #[u, v0, v1] w (Ret fun v w' => ∃ hv, v = .tuple #[hv, .int .i64 (mgE (csL l) a b)] ∧ Own w' TDg 32 hv (flatD (mgL (csL l) a b)) ∧ (∀ k, hv.ownBlock = some k → w.heap.size ≤ k) ∧ Ext w w') := by
 obtain ⟨A1, m1, c1, rfl, h1m, h1c, h1x, h1g⟩ := id ha
 obtain ⟨A2, m2, c2, rfl, h2m, h2c, h2x, h2g⟩ := id hb
 refine calls_of_CW 35 [6, 7] [(0, u), (1, .slice A1 m1 c1), (2, .slice A2 m2 c2)] Tryz.func7 rfl rfl rfl (by simp) args3 ?_
 have hE : Ext w w := Chg.refl
 refine CW.sr fun K1 hK1 => ?_
 refine WL.a rfl ?_
 refine WL.a rfl ?_
 refine WL.nil (hK1 _ _ ?_); try clear hK1 K1
 refine CW.sr fun K2 hK2 => ?_
 refine WL.m rfl ?_
 refine WL.call Tryz.func13 rfl rfl rfl (hnodes_any _ l _ hl hK) (by simp) ?_; rintro v13 w1 hR1
 obtain ⟨A, c, ys, rfl, hQ, hys, hx1⟩ := hR1
 have hQ0 := hQ
 have hz1 := hx1.size
 have hE := hE.thenExt hx1
 refine WL.m rfl ?_
 refine WL.v (Y.extract rfl rfl) ?_
 refine WL.v (Y.extract rfl rfl) ?_
 refine WL.a rfl ?_
 refine WL.a rfl ?_
 refine WL.nil (hK2 _ _ ?_); try clear hK2 K2
 refine CW.seq fun K3 hK3 => ?_
 refine CW.sr fun K4 hK4 => ?_
 refine WL.m rfl ?_
 refine WL.v (Y.neq rfl rfl) ?_
 refine WL.nil (hK4 _ _ ?_); try clear hK4 K4
 (first | refine CW.condD rfl ?_ ?_ | refine CW.condND rfl ?_ ?_ | refine CW.condN rfl ?_ ?_ | refine CW.cond rfl ?_ ?_) <;> intro ht5
 ·
  -- then
  refine CW.sr fun K6 hK6 => ?_
  refine WL.m rfl ?_
  refine WL.a rfl ?_
  refine WL.a rfl ?_
  refine WL.nil (hK6 _ _ ?_); try clear hK6 K6
  refine CW.ret ⟨_, rfl, ?_⟩
  have he : txE (csL l) (a ++ b) = (rdH (csL l)).2 := by rw [txE, if_pos (by assumption)]
  have he2 : mgE (csL l) a b = (rdH (csL l)).2 := by rw [mgE, if_pos (by rw [he]; assumption), he]
  exact ⟨.slice none 0 0, by rw [he2]; rfl, by rw [mgL, if_neg (by rw [he2]; assumption)]; exact Own.nil, (fun k h => by simp [Value.ownBlock] at h), hE⟩
 refine CW.skip ?_
 refine hK3 _ _ ?_; try clear hK3 K3
 refine CW.seq fun K7 hK7 => ?_
 have h0 : (rdH (csL l)).2 = 0 := Decidable.not_not.1 (by assumption)
 rw [if_pos h0] at hys
 refine CW.region ?_
 refine WL.m rfl ?_
 refine WL.m rfl ?_
 refine WL.st (St.append (news := flatD a) Tryz.underlying24 Tryz.underlying24 ai_dig rfl rfl Own.nil (Sl.src digC_length (ha.ext hE)) (one_fdH _) (by simp only [List.length_nil]; omega)) (by decide) fun v22 w2 hR2 => ?_
 obtain ⟨hO2, hc2, hf2⟩ := hR2
 have hz2 := hc2.size
 have hx2 : Ext w1 w2 := hc2.toExt (fun k _ h => by simp [Value.ownBlock] at h)
 rw [List.nil_append] at hO2
 have hE := hE.thenExt hx2
 have hQ := hQ.ext hx2
 have hf2 : ∀ k, v22.ownBlock = some k → w1.heap.size ≤ k := fun k hk => by
  rcases hf2 with h | h
  ·
   rw [h] at hk; simp [Value.ownBlock] at hk
  ·
   exact h k hk
 refine WL.m rfl ?_
 refine WL.st (St.append (news := flatD b) Tryz.underlying24 Tryz.underlying24 ai_dig rfl rfl hO2 (Sl.src digC_length (hb.ext hE)) (one_fdH _) (by rw [flat_length digC_length]; omega)) (by decide) fun v24 w3 hR3 => ?_
 obtain ⟨hO3, hc3, hf3⟩ := hR3
 have hz3 := hc3.size
 have hE := hE.step hc3 (fun k h => by have := hf2 k h; omega)
 have hx13 : Ext w1 w3 := hx2.step hc3 (fun k h => hf2 k h)
 have hN := hQ0.nds.ext hx13
 have hO3 : Own w3 TDg 32 v24 (flatD (a ++ b)) := by rw [flatD, List.map_append, List.flatten_append]; exact hO3
 have hS3 := hO3.sl digC_length (by decide)
 refine WL.call Tryz.func21 rfl rfl rfl (gHeads_any _ _ ys (a ++ b) _ hN hS3) (by simp) ?_; rintro v25 w4 hR4
 obtain ⟨hv, rfl, hO4, hf4, hx4⟩ := hR4
 have hz4 := hx4.size
 have hzE := hE.size
 have hE := hE.thenExt hx4
 rw [hys, wrongQ_tx h0] at hO4 ⊢
 refine WL.m rfl ?_
 refine WL.v (Y.extract rfl rfl) ?_
 refine WL.v (Y.extract rfl rfl) ?_
 refine WL.a rfl ?_
 refine WL.a rfl ?_
 refine WL.nil (hK7 _ _ ?_); try clear hK7 K7
 refine CW.seq fun K8 hK8 => ?_
 refine CW.sr fun K9 hK9 => ?_
 refine WL.m rfl ?_
 refine WL.v (Y.neq rfl rfl) ?_
 refine WL.nil (hK9 _ _ ?_); try clear hK9 K9
 (first | refine CW.condD rfl ?_ ?_ | refine CW.condND rfl ?_ ?_ | refine CW.condN rfl ?_ ?_ | refine CW.cond rfl ?_ ?_) <;> intro ht10
 ·
  -- then
  refine CW.sr fun K11 hK11 => ?_
  refine WL.m rfl ?_
  refine WL.a rfl ?_
  refine WL.a rfl ?_
  refine WL.nil (hK11 _ _ ?_); try clear hK11 K11
  refine CW.ret ⟨_, rfl, ?_⟩
  have he2 : mgE (csL l) a b = txE (csL l) (a ++ b) := by rw [mgE, if_pos (by assumption)]
  exact ⟨.slice none 0 0, by rw [he2]; rfl, by rw [mgL, if_neg (by rw [he2]; assumption)]; exact Own.nil, (fun k h => by simp [Value.ownBlock] at h), hE⟩
 refine CW.skip ?_
 refine hK8 _ _ ?_; try clear hK8 K8
 refine CW.seq fun K12 hK12 => ?_
 refine CW.seq fun K13 hK13 => ?_
 have htx : txE (csL l) (a ++ b) = 0 := Decidable.not_not.1 (by assumption)
 rw [if_pos htx] at hO4
 have hO4 : Own w4 TDg 32 hv (flatD (hdL (ndsH (csL l)) (a ++ b))) := hO4
 obtain ⟨A9, n9, c9, rfl⟩ := hO4.lens
 have hn9 : n9 = (hdL (ndsH (csL l)) (a ++ b)).length := by
  have := (hO4.mem _ _ _ rfl).2.2.1
  rw [flat_length digC_length] at this
  omega
 subst hn9
 refine CW.region ?_
 refine WL.m rfl ?_
 refine WL.v (Y.len_slice Tryz.underlying24 rfl) ?_
 refine WL.v (Y.gtr rfl rfl) ?_
 refine WL.nil (hK13 _ _ ?_); try clear hK13 K13
 (first | refine CW.condD rfl ?_ ?_ | refine CW.condND rfl ?_ ?_ | refine CW.condN rfl ?_ ?_ | refine CW.cond rfl ?_ ?_) <;> intro ht14
 ·
  -- then
  refine CW.sr fun K15 hK15 => ?_
  refine WL.a rfl ?_
  refine WL.a rfl ?_
  refine WL.nil (hK15 _ _ ?_); try clear hK15 K15
  refine CW.ret ⟨_, rfl, ?_⟩
  have he2 : mgE (csL l) a b = 4 := by rw [mgE_tx htx, if_pos (by omega)]
  exact ⟨_, by rw [he2], by rw [mgL, if_neg (by rw [he2]; decide)]; exact Own.nil, (fun k h => by simp [Value.ownBlock] at h), hE⟩
 refine CW.skip ?_
 refine hK12 _ _ ?_; try clear hK12 K12
 refine CW.sr fun K16 hK16 => ?_
 refine WL.m rfl ?_
 refine WL.a rfl ?_
 refine WL.a rfl ?_
 refine WL.nil (hK16 _ _ ?_); try clear hK16 K16
 refine CW.ret ⟨_, rfl, ?_⟩
 have he2 : mgE (csL l) a b = 0 := by rw [mgE_tx htx, if_neg (by omega)]
 exact ⟨_, by rw [he2], by rw [mgL, if_pos he2]; exact hO4, (fun k h => by have := hf4 k h; omega), hE⟩
end Go.Proofs.YtjbeooimhoilmaaGreatDoor
/- Lists of commits, of numbers, arrays of these as arguments of this program. No condition. -/
namespace Go.Fw
open Go.RowKit Go.WideShapes Go.ChangeShapes Go.ChangeAt Go.Deep
end Go.Fw
namespace Go.Proofs.YtjbeooimhoilmaaGreatDoor
open Go.RowKit Go.Fw Go.WideShapes Go.ChangeShapes Go.ChangeAt Go.Deep
structure CoIn (w : World) (x : CoV) : Prop where
 at_ : CoAt w x
 parents : x.c.parents.length * 32 ≤ reachBytes
 ops : x.c.ops.length * 72 ≤ reachBytes
theorem rd_cov : RdW Tryz.prog 48 (fun w cs => ∃ x : CoV, cs = coC x ∧ CoIn w x) := rd_com.mono fun w cs ⟨c, hc⟩ => by
 obtain ⟨pv, ov, hv, hp, ho, ha, hn⟩ := hc.com
 obtain ⟨A, ca, rfl, _⟩ := hp.lens
 obtain ⟨B, cb, rfl, _⟩ := ho.lens
 refine ⟨⟨c, A, ca, B, cb⟩, ?_, ⟨hp, ho, ha, hn⟩, hc.parents, hc.ops⟩
 injection hv with hv
 have := congrArg Array.toList hv
 have e : cs = comC (.slice A c.parents.length ca) c.author c.note (.slice B c.ops.length cb) := by simpa using this
 exact e
theorem bytes_co : Tryz.prog.bytesOf 48 = 80 := by kernel_rfl
theorem rd_cos : RdW Tryz.prog 22 (fun w cs => ∃ v xs, cs = [v] ∧ Sl w coC 4 v xs ∧ xs.length * Tryz.prog.bytesOf 48 ≤ reachBytes ∧ ∀ (i : Nat) x, xs[i]? = some x → CoIn w x) :=
 RdW.slice (Q := fun w x => CoIn w x) Tryz.underlying22 (by kernel_rfl) coC_length rd_cov
section
variable {H : Type} {en : TypeId × Value → H} {w : World} {v : Value} {d : DataW H} {ps : List MemPlace} {base : Nat}
set_option maxRecDepth 100000 in
theorem arg_cos (hv : Value.okWide Tryz.prog w .any base 22 v) (h : DataW.Trod en Tryz.prog w 0 (fun _ => true) true 22 v d ps) (hw : ∀ n ∈ d.weights Tryz.prog 22, n ≤ reachBytes) :
  ∃ xs, Hcs w v xs ∧ xs.length * 80 ≤ reachBytes ∧ ∀ x ∈ xs, CoIn w x := by
 obtain ⟨u, xs, hs, hb, hl, hq⟩ := rd_cos.arg h hw
 obtain ⟨a, m, c, rfl⟩ := okWide_slice Tryz.underlying22 hv
 simp [Value.cells] at hs
 subst hs
 rw [bytes_co] at hl
 have hget : ∀ x ∈ xs, CoIn w x := fun x hx => by
  obtain ⟨i, hi⟩ := List.mem_iff_getElem?.1 hx
  exact hq i x hi
 exact ⟨xs, ⟨hb, fun x hx => (hget x hx).at_⟩, hl, hget⟩
end
end Go.Proofs.YtjbeooimhoilmaaGreatDoor
/- Strings put together; the bytes of a string as a new slice. No condition. -/
namespace Go.Fw
open Go.RowKit
section
variable {P : Program} {n : NN} {fr : Fr} {w : World} {ty : TypeId}
theorem Y.addS {x y : Operand} {p q : ByteArray} {t t' : TypeId} (hx : ev fr x = some (.string p)) (hy : ev fr y = some (.string q)) (h : p.size + q.size ≤ 9223372036854775807) :
  Yw P n fr (.binOp .add t x y t') ty w (.string (p ++ q)) w := Y.bin hx hy (by simp [eqGuard_at_string]) (by
   have : ¬ (((p.size + q.size : Nat) : Int) > IntKind.i64.max) := by simp only [IntKind.max, IntKind.bits, IntKind.signed]; simp; omega
   simp only [binOp, Op.stringOp, this]
   rfl)
theorem St.strBytes {x : Operand} {s d e : TypeId} {str : ByteArray} (hs : P.underlying s = some .string) (hd : P.underlying d = some (.slice e)) (he : P.underlying e = some (.int .u8)) (hx : ev fr x = some (.string str)) (hr : str.size ≤ 140737488351232) :
  St P n fr (.convert s d x) ty w (fun v w' => Own w' e 1 v (bytesC str.toList) ∧ Ext w w' ∧ ∀ g, v.ownBlock = some g → w.heap.size ≤ g) := fun a o' ho hty ha => by
 have h1 := run_bytes_of_string (P := P) w s d e str hs hd he
 refine ⟨_, _, by simp only [execOp, ho, ha.ev hx]; rw [Sem.run_bind, h1]; rfl, ?_, ?_, ?_⟩
 ·
  have hge := grownCap_ge w str.size 0 e
  have hle : grownCap w str.size 0 e ≤ maxLen := grownCap_le_maxLen w str.size 0 e (by simp only [maxLen]; omega)
  have hl := toList_length str
  have hc : (bytesC str.toList).length = str.size := by rw [bytesC_length, hl]
  have hrow : bytesRow str (grownCap w str.size 0 e) = (bytesC str.toList ++ List.replicate (grownCap w str.size 0 e - str.size) (Value.int .u8 0)).toArray := by
   apply Array.ext'
   simp [bytesRow, bytesC, ByteArray.toList_eq]
   exact fun _ _ => rfl
  refine .inr ⟨w.heap.size, str.size, grownCap w str.size 0 e, List.replicate (grownCap w str.size 0 e - str.size) (.int .u8 0), ((bytesRow str (grownCap w str.size 0 e)).size, (bytesRow str (grownCap w str.size 0 e)).size + 1), rfl, ?_, by omega, hge, hle, by simp [hc]; omega, ?_⟩
  ·
   rw [← hrow]; exact heap_alloc_new _ _
  ·
   intro o ho' h
   simp only [bytesRow, Array.size_append, Array.size_map, Array.size_replicate] at h
   have : str.data.size = str.size := rfl
   omega
 ·
  exact Chg.drew.trans (Chg.alloc (S := fun _ => False) _) (fun _ _ f => f.elim)
 ·
  intro g hg
  simp [Value.ownBlock] at hg
  omega
end
theorem bs_append (a b : List UInt8) : bs a ++ bs b = bs (a ++ b) := by
 apply ByteArray.ext
 simp [bs]
end Go.Fw
namespace Go.Fw
open Go.RowKit
section
variable {P : Program} {ops : Array Oper} {S : World → Prop} {n : NN} {Φ : Exit → Fr → World → Prop} {fr : Fr} {w : World} {fuel : Nat} {listed : Array Bool}
end
end Go.Fw
/- The reference's bytes of a commit, walked: Num, Text, bytes, op. No condition. -/
namespace Go.Pl
open Go.Fw
def outB (x : OpD) : List UInt8 := if x.at_.own = true then numB x.at_.n else if rootB x.at_ = true then [] else x.at_.c.1 ++ numB x.at_.n
theorem opB_out (x : OpD) : opB x = numB (flagI x) ++ outB x ++ (if x.kind = 1 then [x.byte] else []) := by
 unfold opB outB
 by_cases a : x.at_.own = true <;> by_cases b : rootB x.at_ = true <;> simp [a, b]
theorem kind_cases {r : RefD} (h : refB r = true) : (refKind r = 1 ∧ r.own = true) ∨ (refKind r = 2 ∧ r.own = false ∧ rootB r = false) ∨ (refKind r = 0 ∧ r.own = false ∧ rootB r = true) := by
 have h0 := rk0 r
 have h1 := rk1 r
 have h3 := rk3 r
 have hr := root_iff r
 by_cases ho : r.own = true
 ·
  exact .inl ⟨h1.2 ⟨ho, h⟩, ho⟩
 ·
  have ho' : r.own = false := by simpa using ho
  by_cases hb : rootB r = true
  ·
   exact .inr (.inr ⟨h0.2 hb, ho', hb⟩)
  ·
   refine .inr (.inl ⟨?_, ho', by simpa using hb⟩)
   have n0 : refKind r ≠ 0 := fun e => hb (h0.1 e)
   have n3 : refKind r ≠ 3 := fun e => by rw [h3.1 e] at h; cases h
   simp only [refKind, ho', Bool.false_eq_true, if_false] at n0 n3 ⊢
   split
   ·
    rfl
   ·
    rename_i h5
    rw [if_neg h5] at n0 n3
    split at n0
    ·
     exact absurd rfl n0
    ·
     rename_i h6
     rw [if_neg h6] at n3
     exact absurd rfl n3
theorem kc1 {r : RefD} (h1 : refKind r = 1) : r.own = true := ((rk1 r).1 h1).1
theorem kc2 {r : RefD} (h : refB r = true) (h1 : refKind r = 2) : r.own = false ∧ rootB r = false := by
 rcases kind_cases h with h | h | h
 ·
  omega
 ·
  exact h.2
 ·
  omega
theorem kc0 {r : RefD} (h : refB r = true) (h1 : ¬ refKind r = 1) (h2 : ¬ refKind r = 2) : r.own = false ∧ rootB r = true := by
 rcases kind_cases h with h | h | h
 ·
  exact absurd h.1 h1
 ·
  exact absurd h.1 h2
 ·
  exact h.2
theorem outB_len {x : OpD} (h : x.at_.n < 9223372036854775808) : (outB x).length ≤ 41 := by
 have h2 := numB_len h
 have h3 := x.at_.c.2
 unfold outB
 split
 ·
  omega
 ·
  split
  ·
   simp
  ·
   rw [List.length_append]; omega
end Go.Pl
namespace Go.Proofs.YtjbeooimhoilmaaGreatDoor
open Go.RowKit Go.Fw Go.Pl
theorem rNum_any (n : Nat) (w : World) (hn : n < 9223372036854775808) : Calls Tryz.prog 68 #[.int .i64 (n : Int)] w (Ret fun v w' => v = .string (bs (vi n)) ∧ Ext w w') := by
 revert hn
 revert w
 refine Nat.strongRecOn n ?_
 clear n
 intro n ih w hn
 refine calls_of_CW 19 [2] [(0, .int .i64 (n : Int))] Tryz.func68 rfl rfl rfl (by simp) args1 ?_
 have hE : Ext w w := Chg.refl
 refine CW.sr fun K1 hK1 => ?_
 refine WL.a rfl ?_
 refine WL.nil (hK1 _ _ ?_); try clear hK1 K1
 refine CW.seq fun K2 hK2 => ?_
 refine CW.sr fun K3 hK3 => ?_
 refine WL.m rfl ?_
 refine WL.v (Y.lss rfl rfl) ?_
 refine WL.nil (hK3 _ _ ?_); try clear hK3 K3
 (first | refine CW.condD rfl ?_ ?_ | refine CW.condND rfl ?_ ?_ | refine CW.condN rfl ?_ ?_ | refine CW.cond rfl ?_ ?_) <;> intro ht4
 ·
  -- then
  refine CW.sr fun K5 hK5 => ?_
  refine WL.m rfl ?_
  refine WL.v (Y.conv_int Tryz.underlying3 Tryz.underlying5 rfl) ?_
  refine WL.st (St.buildSlice rfl (bs1 _)) (by decide) fun v7 w1 hR1 => ?_
  obtain ⟨g, rfl, hg, hB, hx⟩ := hR1
  rw [u8_of] at hB
  refine WL.v (Y.bytes_string Tryz.underlying91 Tryz.underlying5 Tryz.underlying9 rfl (l := [UInt8.ofNat n]) rfl (fun _ => ⟨_, rfl, hB.mem⟩) (fun h => by cases h)) ?_
  refine WL.a rfl ?_
  refine WL.nil (hK5 _ _ ?_); try clear hK5 K5
  refine CW.ret ⟨_, rfl, ?_⟩
  exact ⟨by rw [vi_lt (by omega)], hE.thenExt hx⟩
 refine CW.skip ?_
 refine hK2 _ _ ?_; try clear hK2 K2
 refine CW.seq fun K6 hK6 => ?_
 refine CW.held (fun wq => Ext w wq) (by kernel_rfl) 11 rfl fun w2 hS => ?_
 refine RH.tk 0 hS rfl (fun wq hq => Y.move rfl) ?_
 refine RH.tk 1 hS rfl (fun wq hq => Y.remN (q := 128) rfl rfl (by decide)) ?_
 refine RH.tk 2 hS rfl (fun wq hq => Y.add rfl rfl ⟨by omega, by omega⟩) ?_
 refine RH.tk 3 hS rfl (fun wq hq => Y.conv_int Tryz.underlying3 Tryz.underlying5 rfl) ?_
 refine RH.tk 6 hS rfl (fun wq hq => Y.move rfl) ?_
 refine RH.tk 7 hS rfl (fun wq hq => Y.quoN (q := 128) rfl rfl (by decide)) ?_
 refine RH.two 4 8 (by kernel_rfl) ?_ ?_
 ·
  skip
  refine RS.st rfl (St.buildSlice rfl (bs1 _)) (by decide) fun v13 w3 hR3 => ?_
  obtain ⟨g, rfl, hg, hB, hx⟩ := hR3
  rw [show ((n % 128 : Nat) : Int) + 128 = ((n % 128 + 128 : Nat) : Int) by omega, u8_of] at hB
  have hS := hS.thenExt hx
  refine ⟨hS, ?_⟩
  refine RH.two 5 8 (by kernel_rfl) ?_ ?_
  ·
   skip
   refine RS.val rfl (Y.bytes_string Tryz.underlying91 Tryz.underlying5 Tryz.underlying9 rfl (l := [UInt8.ofNat (n % 128 + 128)]) rfl (fun _ => ⟨_, rfl, hB.mem⟩) (fun h => by cases h)) (by decide) ⟨hS, ?_⟩
   refine RH.one 8 (by kernel_rfl) ?_
   refine RS.call rfl (fun _ _ h => by cases h) Tryz.func68 rfl rfl rfl (ih (n / 128) (by omega) _ (by omega)) (by decide) fun v17 w4 hR4 => ?_
   obtain ⟨rfl, hy⟩ := hR4
   have hS := hS.thenExt hy
   refine ⟨hS, ?_⟩
   refine RH.tk 9 hS rfl (fun wq hq => Y.addS rfl rfl (by rw [bs_size, bs_size]; have := vi_len9 (n := n / 128) (by omega); simp only [List.length_cons, List.length_nil]; omega)) ?_
   refine RH.tk 10 hS rfl (fun wq hq => Y.assign rfl) ?_
   refine RH.done (by kernel_rfl) ?_
   have hx5 := hS; have hz5 := hx5.size; have hE := hE.thenExt hx5
   refine hK6 _ _ ?_; try clear hK6 K6
   refine CW.ret ⟨_, rfl, ?_⟩
   exact ⟨by rw [bs_append, vi_ge (n := n) (by omega)]; rfl, hE⟩
  ·
   skip
   refine RS.call rfl (fun _ _ h => by cases h) Tryz.func68 rfl rfl rfl (ih (n / 128) (by omega) _ (by omega)) (by decide) fun v17 w6 hR6 => ?_
   obtain ⟨rfl, hy⟩ := hR6
   have hS := hS.thenExt hy
   refine ⟨hS, ?_⟩
   refine RH.one 5 (by kernel_rfl) ?_
   refine RS.val rfl (Y.bytes_string Tryz.underlying91 Tryz.underlying5 Tryz.underlying9 rfl (l := [UInt8.ofNat (n % 128 + 128)]) rfl (fun _ => ⟨_, rfl, (hB.ext hy).mem⟩) (fun h => by cases h)) (by decide) ⟨hS, ?_⟩
   refine RH.tk 9 hS rfl (fun wq hq => Y.addS rfl rfl (by rw [bs_size, bs_size]; have := vi_len9 (n := n / 128) (by omega); simp only [List.length_cons, List.length_nil]; omega)) ?_
   refine RH.tk 10 hS rfl (fun wq hq => Y.assign rfl) ?_
   refine RH.done (by kernel_rfl) ?_
   have hx7 := hS; have hz7 := hx7.size; have hE := hE.thenExt hx7
   refine hK6 _ _ ?_; try clear hK6 K6
   refine CW.ret ⟨_, rfl, ?_⟩
   exact ⟨by rw [bs_append, vi_ge (n := n) (by omega)]; rfl, hE⟩
 ·
  skip
  refine RS.call rfl (fun _ _ h => by cases h) Tryz.func68 rfl rfl rfl (ih (n / 128) (by omega) _ (by omega)) (by decide) fun v17 w8 hR8 => ?_
  obtain ⟨rfl, hy⟩ := hR8
  have hS := hS.thenExt hy
  refine ⟨hS, ?_⟩
  refine RH.one 4 (by kernel_rfl) ?_
  refine RS.st rfl (St.buildSlice rfl (bs1 _)) (by decide) fun v13 w9 hR9 => ?_
  obtain ⟨g, rfl, hg, hB, hx⟩ := hR9
  rw [show ((n % 128 : Nat) : Int) + 128 = ((n % 128 + 128 : Nat) : Int) by omega, u8_of] at hB
  have hS := hS.thenExt hx
  refine ⟨hS, ?_⟩
  refine RH.one 5 (by kernel_rfl) ?_
  refine RS.val rfl (Y.bytes_string Tryz.underlying91 Tryz.underlying5 Tryz.underlying9 rfl (l := [UInt8.ofNat (n % 128 + 128)]) rfl (fun _ => ⟨_, rfl, hB.mem⟩) (fun h => by cases h)) (by decide) ⟨hS, ?_⟩
  refine RH.tk 9 hS rfl (fun wq hq => Y.addS rfl rfl (by rw [bs_size, bs_size]; have := vi_len9 (n := n / 128) (by omega); simp only [List.length_cons, List.length_nil]; omega)) ?_
  refine RH.tk 10 hS rfl (fun wq hq => Y.assign rfl) ?_
  refine RH.done (by kernel_rfl) ?_
  have hx10 := hS; have hz10 := hx10.size; have hE := hE.thenExt hx10
  refine hK6 _ _ ?_; try clear hK6 K6
  refine CW.ret ⟨_, rfl, ?_⟩
  exact ⟨by rw [bs_append, vi_ge (n := n) (by omega)]; rfl, hE⟩
theorem rNum_i (i : Int) (w : World) (h0 : 0 ≤ i) (hn : i < 9223372036854775808) : Calls Tryz.prog 68 #[.int .i64 i] w (Ret fun v w' => v = .string (bs (numB i)) ∧ Ext w w') := by
 obtain ⟨n, rfl⟩ : ∃ n : Nat, i = (n : Int) := ⟨i.toNat, by omega⟩
 rw [numB_nat]
 exact rNum_any n w (by omega)
theorem rText_any (s : ByteArray) (w : World) (hn : s.size ≤ 140737488351232) : Calls Tryz.prog 70 #[.string s] w (Ret fun v w' => v = .string (bs (textB s.toList)) ∧ Ext w w') := by
 refine calls_of_CW 8 [2] [(0, .string s)] Tryz.func70 rfl rfl rfl (by simp) args1 ?_
 have hE : Ext w w := Chg.refl
 refine CW.sr fun K1 hK1 => ?_
 refine WL.a rfl ?_
 refine WL.nil (hK1 _ _ ?_); try clear hK1 K1
 refine CW.sr fun K2 hK2 => ?_
 refine WL.m rfl ?_
 refine WL.v (Y.len_string Tryz.underlying9 rfl) ?_
 refine WL.call Tryz.func68 rfl rfl rfl (rNum_any _ _ (by omega)) (by simp) ?_; rintro v w1 ⟨rfl, hx1⟩; have hz1 := hx1.size; have hE := hE.thenExt hx1
 refine WL.m rfl ?_
 refine WL.v (Y.addS rfl rfl (by rw [bs_size]; have := vi_len9 (n := s.size) (by omega); omega)) ?_
 refine WL.a rfl ?_
 refine WL.nil (hK2 _ _ ?_); try clear hK2 K2
 refine CW.ret ⟨_, rfl, ?_⟩
 exact ⟨by rw [textB, toList_length, ← bs_append, bs_of], hE⟩
theorem rBytes_any (d : Dig) (w : World) : Calls Tryz.prog 69 #[digV d] w (Ret fun v w' => v = .string (bs d.1) ∧ Ext w w') := by
 have hd := d.2
 refine calls_of_CW 17 [2] [(0, digV d)] Tryz.func69 rfl rfl rfl (by simp) args1 ?_
 have hE : Ext w w := Chg.refl
 refine CW.sr fun K1 hK1 => ?_
 refine WL.box rfl rfl (by decide) fun g1 w1 hx1 hg1 hB1 => ?_
 have hlt1 := hB1.lt; have hz1 := hx1.size
 have hM1 := hB1.mem; have hz1 := hx1.size; have hE := hE.thenExt hx1
 refine WL.a rfl ?_
 refine WL.nil (hK1 _ _ ?_); try clear hK1 K1
 refine CW.sr fun K2 hK2 => ?_
 refine WL.a rfl ?_
 refine WL.nil (hK2 _ _ ?_); try clear hK2 K2
 refine CW.seq fun K3 hK3 => ?_
 refine CW.sr fun K4 hK4 => ?_
 refine WL.a rfl ?_
 refine WL.nil (hK4 _ _ ?_); try clear hK4 K4
 refine CW.block ?_
 refine CW.loop (X := Nat) (fun x => [(1, .pointer (some ⟨g1, 0, none⟩)), (3, .string (bs (d.1.take x))), (4, .int .i64 (x : Int))]) (fun x w0 => x ≤ 32 ∧ Ext w w0 ∧ Blk w0 g1 43 (digC d)) (fun x => 32 - x) 0 Fr.ok ⟨Nat.zero_le _, hE, hB1⟩ ?_
 intro x w2 hl2
 clear hE hB1 hM1
 obtain ⟨hx, hE, hB1⟩ := hl2
 refine CW.seq fun K5 hK5 => ?_
 refine CW.sr fun K6 hK6 => ?_
 refine WL.m rfl ?_
 refine WL.v (Y.lss rfl rfl) ?_
 refine WL.nil (hK6 _ _ ?_); try clear hK6 K6
 (first | refine CW.condD rfl ?_ ?_ | refine CW.condND rfl ?_ ?_ | refine CW.condN rfl ?_ ?_ | refine CW.cond rfl ?_ ?_) <;> intro ht7
 ·
  -- then
  refine CW.skip ?_
  refine hK5 _ _ ?_; try clear hK5 K5
  refine CW.seq fun K8 hK8 => ?_
  refine CW.block ?_
  refine CW.region ?_
  refine WL.m rfl ?_
  refine WL.m rfl ?_
  refine WL.v (Y.indexAddrAN Tryz.underlying43 rfl rfl sz0_uint8 (by omega)) ?_
  refine WL.v (Y.load1 Tryz.underlying5 rfl (hB1.mem.digAt (i := x) (by omega)) rfl) ?_
  refine WL.st (St.buildSlice rfl (bs1 _)) (by decide) fun v13 w3 hR3 => ?_
  obtain ⟨g, rfl, hg, hB, hx3⟩ := hR3
  have hE := hE.thenExt hx3
  have hB1 := hB1.ext hx3
  refine WL.v (Y.bytes_string Tryz.underlying91 Tryz.underlying5 Tryz.underlying9 rfl (l := [d.1[x]'(by omega)]) rfl (fun _ => ⟨_, rfl, hB.mem⟩) (fun h => by cases h)) ?_
  refine WL.v (Y.addS rfl rfl (by rw [bs_size, bs_size, List.length_take]; simp only [List.length_cons, List.length_nil]; omega)) ?_
  refine WL.a rfl ?_
  refine WL.nil (hK8 _ _ ?_); try clear hK8 K8
  refine CW.region ?_
  refine WL.m rfl ?_
  refine WL.v (Y.add rfl rfl ⟨by omega, by omega⟩) ?_
  refine WL.a rfl ?_
  refine WL.nil ?_
  refine ⟨x + 1, by omega, Fr.le.cons rfl (Fr.le.cons (by rw [bs_append, ← take_succ (List.getElem?_eq_getElem (by omega))]; rfl) (Fr.le.cons rfl Fr.le.nil)), by omega, hE, hB1⟩
 refine CW.exit ?_
 refine hK3 _ _ ?_; try clear hK3 K3
 refine CW.sr fun K9 hK9 => ?_
 refine WL.m rfl ?_
 refine WL.a rfl ?_
 refine WL.nil (hK9 _ _ ?_); try clear hK9 K9
 refine CW.ret ⟨_, rfl, ?_⟩
 exact ⟨by rw [List.take_of_length_le (by omega)], hE⟩
theorem rOp_any (x : OpD) (w : World) (hr : refB x.at_ = true) (hn : 0 ≤ x.at_.n ∧ x.at_.n ≤ 2000) : Calls Tryz.prog 71 #[opV x] w (Ret fun v w' => v = .string (bs (opB x)) ∧ Ext w w') := by
 have hfl := flag_len x
 have hf0 := flagI_range x
 have hnl := numB_len (n := x.at_.n) (by omega)
 have hdl := x.at_.c.2
 have hol := outB_len (x := x) (by omega)
 refine calls_of_CW 50 [2] [(0, opV x)] Tryz.func71 rfl rfl rfl (by simp) args1 ?_
 have hE : Ext w w := Chg.refl
 refine CW.sr fun K1 hK1 => ?_
 refine WL.box rfl rfl (by decide) fun g1 w1 hx1 hg1 hB1 => ?_
 have hlt1 := hB1.lt; have hz1 := hx1.size
 have hM1 := hB1.mem; have hz1 := hx1.size; have hE := hE.thenExt hx1
 refine WL.a rfl ?_
 refine WL.nil (hK1 _ _ ?_); try clear hK1 K1
 refine CW.sr fun K2 hK2 => ?_
 refine WL.a rfl ?_
 refine WL.nil (hK2 _ _ ?_); try clear hK2 K2
 refine CW.seq_to (X := Unit) (fun _ => [(1, .pointer (some ⟨g1, 0, none⟩)), (3, .int .i64 (if x.kind = 2 then 1 else 0))]) (fun _ w0 => Ext w w0 ∧ Blk w0 g1 70 (opC x)) ?_ ?_
 ·
  skip
  refine CW.sr fun K4 hK4 => ?_
  refine WL.v (Y.fieldAddr fo_apiOp0 rfl) ?_
  refine WL.v (Y.load1 Tryz.underlying3 rfl hB1.mem.op0 rfl) ?_
  refine WL.v (Y.eql rfl rfl) ?_
  refine WL.nil (hK4 _ _ ?_); try clear hK4 K4
  (first | refine CW.condD rfl ?_ ?_ | refine CW.condND rfl ?_ ?_ | refine CW.condN rfl ?_ ?_ | refine CW.cond rfl ?_ ?_) <;> intro ht5
  ·
   -- then
   refine CW.region ?_
   refine WL.a rfl ?_
   refine WL.nil ?_
   exact ⟨(), Fr.le.cons rfl (Fr.le.cons (by rw [if_pos (by assumption)]; rfl) Fr.le.nil), hE, hB1⟩
  refine CW.skip ?_
  exact ⟨(), Fr.le.cons rfl (Fr.le.cons (by rw [if_neg (by assumption)]; rfl) Fr.le.nil), hE, hB1⟩
 rintro u w2 hj2
 clear hE hB1 hM1
 obtain ⟨hE, hB1⟩ := hj2
 refine CW.seq_to (X := Unit) (fun _ => [(1, .pointer (some ⟨g1, 0, none⟩)), (3, .int .i64 ((if x.kind = 2 then 1 else 0) + (if x.left = true then 2 else 0)))]) (fun _ w0 => Ext w w0 ∧ Blk w0 g1 70 (opC x)) ?_ ?_
 ·
  skip
  refine CW.sr fun K7 hK7 => ?_
  refine WL.v (Y.fieldAddr fo_apiOp1 rfl) ?_
  refine WL.v (Y.load1 Tryz.underlying4 rfl hB1.mem.op1 rfl) ?_
  refine WL.nil (hK7 _ _ ?_); try clear hK7 K7
  (first | refine CW.condD rfl ?_ ?_ | refine CW.condND rfl ?_ ?_ | refine CW.condN rfl ?_ ?_ | refine CW.cond rfl ?_ ?_) <;> intro ht8
  ·
   -- then
   refine CW.region ?_
   refine WL.m rfl ?_
   refine WL.v (Y.add rfl rfl ⟨by omega, by omega⟩) ?_
   refine WL.a rfl ?_
   refine WL.nil ?_
   exact ⟨(), Fr.le.cons rfl (Fr.le.cons (by rw [if_pos (show x.left = true by assumption)]; rfl) Fr.le.nil), hE, hB1⟩
  refine CW.skip ?_
  exact ⟨(), Fr.le.cons rfl (Fr.le.cons (by rw [show x.left = false by assumption, show (if (false : Bool) = true then (2 : Int) else 0) = 0 from rfl, Int.add_zero]; rfl) Fr.le.nil), hE, hB1⟩
 rintro u w3 hj3
 clear hE hB1
 obtain ⟨hE, hB1⟩ := hj3
 refine CW.sr fun K9 hK9 => ?_
 refine WL.a rfl ?_
 refine WL.nil (hK9 _ _ ?_); try clear hK9 K9
 refine CW.seq_to (X := Unit) (fun _ => [(1, .pointer (some ⟨g1, 0, none⟩)), (3, .int .i64 (flagI x)), (4, .string (bs (outB x)))]) (fun _ w0 => Ext w w0 ∧ Blk w0 g1 70 (opC x)) ?_ ?_
 ·
  skip
  refine CW.sr fun K11 hK11 => ?_
  refine WL.v (Y.fieldAddr fo_apiOp2 rfl) ?_
  refine WL.v (Y.load Tryz.underlying68 rfl hB1.mem.op2 (sz_apiRef _) rfl) ?_
  refine WL.call Tryz.func45 rfl rfl rfl (rRef_any _ _) (by simp) ?_; rintro v w4 ⟨rfl, hx4⟩; have hz4 := hx4.size; have hE := hE.thenExt hx4; have hB1 := hB1.ext hx4
  refine WL.nil (hK11 _ _ ?_); try clear hK11 K11
  refine CW.block ?_
  refine CW.sr fun K12 hK12 => ?_
  refine WL.v (Y.eql rfl rfl) ?_
  refine WL.a rfl ?_
  refine WL.nil (hK12 _ _ ?_); try clear hK12 K12
  (first | refine CW.condD rfl ?_ ?_ | refine CW.condND rfl ?_ ?_ | refine CW.condN rfl ?_ ?_ | refine CW.cond rfl ?_ ?_) <;> intro ht13
  ·
   -- then
   refine CW.sr fun K14 hK14 => ?_
   refine WL.m rfl ?_
   refine WL.v (Y.add rfl rfl ⟨by omega, by omega⟩) ?_
   refine WL.a rfl ?_
   refine WL.nil (hK14 _ _ ?_); try clear hK14 K14
   refine CW.region ?_
   refine WL.v (Y.fieldAddr fo_apiOp2 rfl) ?_
   refine WL.v (Y.fieldAddr fo_apiRef2 rfl) ?_
   refine WL.v (Y.load1 Tryz.underlying3 rfl hB1.mem.op2.ref2 rfl) ?_
   refine WL.call Tryz.func68 rfl rfl rfl (rNum_i _ _ hn.1 (by omega)) (by simp) ?_; rintro v w5 ⟨rfl, hx5⟩; have hz5 := hx5.size; have hE := hE.thenExt hx5; have hB1 := hB1.ext hx5
   refine WL.a rfl ?_
   refine WL.nil ?_
   have ho := kc1 (r := x.at_) (by assumption)
   exact ⟨(), Fr.le.cons rfl (Fr.le.cons (by rw [flagI, if_pos ho]; rfl) (Fr.le.cons (by rw [outB, if_pos ho]; rfl) Fr.le.nil)), hE, hB1⟩
  refine CW.sr fun K15 hK15 => ?_
  refine WL.v (Y.eql rfl rfl) ?_
  refine WL.a rfl ?_
  refine WL.nil (hK15 _ _ ?_); try clear hK15 K15
  (first | refine CW.condD rfl ?_ ?_ | refine CW.condND rfl ?_ ?_ | refine CW.condN rfl ?_ ?_ | refine CW.cond rfl ?_ ?_) <;> intro ht16
  ·
   -- then
   refine CW.sr fun K17 hK17 => ?_
   refine WL.m rfl ?_
   refine WL.v (Y.add rfl rfl ⟨by omega, by omega⟩) ?_
   refine WL.a rfl ?_
   refine WL.nil (hK17 _ _ ?_); try clear hK17 K17
   refine CW.quiet (fun wq => Ext w4 wq) (by kernel_rfl) (by kernel_rfl) Chg.drew ?_
   refine QL.v (fun wq hq => Y.fieldAddr fo_apiOp2 rfl) ?_
   refine QL.v (fun wq hq => Y.fieldAddr fo_apiRef1 rfl) ?_
   refine QL.v (fun wq hq => Y.load Tryz.underlying43 rfl (hB1.ext hq).mem.op2.ref1 (sz_apiDigest _) rfl) ?_
   refine QL.call Tryz.func69 rfl rfl rfl (fun wq hq => ret_ext (rBytes_any _ _) hq) (by simp) ?_
   refine QL.v (fun wq hq => Y.fieldAddr fo_apiOp2 rfl) ?_
   refine QL.v (fun wq hq => Y.fieldAddr fo_apiRef2 rfl) ?_
   refine QL.v (fun wq hq => Y.load1 Tryz.underlying3 rfl (hB1.ext hq).mem.op2.ref2 rfl) ?_
   refine QL.call Tryz.func68 rfl rfl rfl (fun wq hq => ret_ext (rNum_i _ _ hn.1 (by omega)) hq) (by simp) ?_
   refine QL.v (fun wq hq => Y.addS rfl rfl (by rw [bs_size, bs_size]; omega)) ?_
   refine QL.a rfl ?_
   refine QL.nil fun w6 hx6 => ?_
   have hz6 := hx6.size
   have hE := hE.thenExt hx6
   have hB1 := hB1.ext hx6
   obtain ⟨ho, hb⟩ := kc2 hr (by assumption)
   exact ⟨(), Fr.le.cons rfl (Fr.le.cons (by rw [show flagI x = (if x.kind = 2 then 1 else 0) + (if x.left = true then 2 else 0) + 8 by simp [flagI, ho, hb]]; rfl) (Fr.le.cons (by rw [show outB x = x.at_.c.1 ++ numB x.at_.n by simp [outB, ho, hb], ← bs_append]; rfl) Fr.le.nil)), hE, hB1⟩
  refine CW.skip ?_
  obtain ⟨ho, hb⟩ := kc0 hr (by assumption) (by assumption)
  exact ⟨(), Fr.le.cons rfl (Fr.le.cons (by rw [show flagI x = (if x.kind = 2 then 1 else 0) + (if x.left = true then 2 else 0) by simp [flagI, ho, hb]]; rfl) (Fr.le.cons (by rw [show outB x = [] by simp [outB, ho, hb]]; rfl) Fr.le.nil)), hE, hB1⟩
 rintro u w7 hj7
 clear hE hB1
 obtain ⟨hE, hB1⟩ := hj7
 refine CW.sr fun K18 hK18 => ?_
 refine WL.m rfl ?_
 refine WL.call Tryz.func68 rfl rfl rfl (rNum_i _ _ hf0.1 (by omega)) (by simp) ?_; rintro v w8 ⟨rfl, hx8⟩; have hz8 := hx8.size; have hE := hE.thenExt hx8; have hB1 := hB1.ext hx8
 refine WL.m rfl ?_
 refine WL.v (Y.addS rfl rfl (by rw [bs_size, bs_size]; omega)) ?_
 refine WL.a rfl ?_
 refine WL.nil (hK18 _ _ ?_); try clear hK18 K18
 refine CW.seq_to (X := Unit) (fun _ => [(4, .string (bs (opB x)))]) (fun _ w0 => Ext w w0) ?_ ?_
 ·
  skip
  refine CW.sr fun K20 hK20 => ?_
  refine WL.v (Y.fieldAddr fo_apiOp0 rfl) ?_
  refine WL.v (Y.load1 Tryz.underlying3 rfl hB1.mem.op0 rfl) ?_
  refine WL.v (Y.eql rfl rfl) ?_
  refine WL.nil (hK20 _ _ ?_); try clear hK20 K20
  (first | refine CW.condD rfl ?_ ?_ | refine CW.condND rfl ?_ ?_ | refine CW.condN rfl ?_ ?_ | refine CW.cond rfl ?_ ?_) <;> intro ht21
  ·
   -- then
   refine CW.region ?_
   refine WL.m rfl ?_
   refine WL.v (Y.fieldAddr fo_apiOp3 rfl) ?_
   refine WL.v (Y.load1 Tryz.underlying5 rfl hB1.mem.op3 rfl) ?_
   refine WL.st (St.buildSlice rfl (bs1 _)) (by decide) fun v46 w9 hR9 => ?_
   obtain ⟨g, rfl, hg, hB, hx⟩ := hR9
   have hE := hE.thenExt hx
   have hB1 := hB1.ext hx
   refine WL.v (Y.bytes_string Tryz.underlying91 Tryz.underlying5 Tryz.underlying9 rfl (l := [x.byte]) rfl (fun _ => ⟨_, rfl, hB.mem⟩) (fun h => by cases h)) ?_
   refine WL.v (Y.addS rfl rfl (by rw [bs_append, bs_size, bs_size, List.length_append]; simp only [List.length_cons, List.length_nil]; omega)) ?_
   refine WL.a rfl ?_
   refine WL.nil ?_
   exact ⟨(), Fr.le.cons (by rw [opB_out, if_pos (by assumption), ← bs_append, ← bs_append]; rfl) Fr.le.nil, hE⟩
  refine CW.skip ?_
  exact ⟨(), Fr.le.cons (by rw [opB_out, if_neg (by assumption), List.append_nil, ← bs_append]; rfl) Fr.le.nil, hE⟩
 rintro u w10 hj10
 have hE := hj10
 refine CW.sr fun K22 hK22 => ?_
 refine WL.m rfl ?_
 refine WL.a rfl ?_
 refine WL.nil (hK22 _ _ ?_); try clear hK22 K22
 refine CW.ret ⟨_, rfl, ?_⟩
 exact ⟨rfl, hE⟩
end Go.Proofs.YtjbeooimhoilmaaGreatDoor
