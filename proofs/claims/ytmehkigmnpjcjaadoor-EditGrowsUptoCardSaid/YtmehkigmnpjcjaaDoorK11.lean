/- Parts of a proof: what its last text leans on. No condition. -/
import Derived.Test.YtmehkigmnpjcjaaDoorK05
import Derived.Test.YtmehkigmnpjcjaaDoorK08
import Derived.Test.YtmehkigmnpjcjaaDoorK10
set_option linter.unusedSimpArgs false
set_option linter.unusedVariables false
/- Several texts as one: Gi, Gj, Gk, Gl, Gm. -/
/- The heads of marked nodes, walked. No condition. -/
namespace Go.Pl
open Go.Fw
def headsD (l : List Nd) (In : List Bool) : Nat → List Bool → List Dig → List Dig
 | 0, _, out => out
 | i + 1, U, out => match l[i]? with
  | some n => headsD l In i (if In[i]? = some true ∨ U[i]? = some true then setAll l U n.ps else U) (if In[i]? = some true ∧ ¬ U[i]? = some true then out ++ [n.id] else out)
  | none => headsD l In i U out
def headsL (l : List Nd) (In : List Bool) : List Dig := sortedD (headsD l In l.length (List.replicate l.length false) [])
theorem headsD_at {l : List Nd} {In U : List Bool} {out : List Dig} {i : Nat} {n : Nd} (h : l[i]? = some n) : headsD l In (i + 1) U out = headsD l In i (if In[i]? = some true ∨ U[i]? = some true then setAll l U n.ps else U) (if In[i]? = some true ∧ ¬ U[i]? = some true then out ++ [n.id] else out) := by
 rw [headsD, h]
end Go.Pl
namespace Go.Proofs.YtmehkigmnpjcjaaDoor
open Go.RowKit Go.Fw Go.Pl Go.Sort
set_option maxRecDepth 100000 in
set_option maxHeartbeats 2000000 in
theorem gheads_any (wb w : World) (gk r sb b : Nat) (u : Value) (l : List NdV) (S0 In : List Bool) (hK : LookAt wb w gk r sb u l S0) (hIn : Blk w b TBo (boolC In)) (hil : In.length = l.length) : Calls Tryd.prog 50 #[.pointer (some ⟨gk, 0, none⟩), .slice (some ⟨b, 0, none⟩) l.length l.length] w (Ret fun v w' => Own w' TDg 32 v (flatD (headsL (ndsL l) In)) ∧ (∀ k, v.ownBlock = some k → w.heap.size ≤ k) ∧ Ext w w') := by
 have hK0 := hK
 have hIn0 := hIn
 obtain ⟨A, c, rfl, hmc, hcm⟩ := hK.nds.sl.lens
 unfold maxLen at hcm
 have hln := ok_len hK.ok
 have hnl : (ndsL l).length = l.length := by simp
 have hltK := hK.lt
 have hzK := hK.old.size
 obtain ⟨bi, hbi, hbz, hbs, hbb⟩ := info_boolT
 refine calls_of_CW 83 [4] [(0, .pointer (some ⟨gk, 0, none⟩)), (1, .slice (some ⟨b, 0, none⟩) l.length l.length)] Tryd.func50 rfl rfl rfl (by simp) args2 ?_
 have hE : Ext w w := Chg.refl
 refine CW.sr fun K1 hK1 => ?_
 refine WL.a rfl ?_
 refine WL.nil (hK1 _ _ ?_); try clear hK1
 refine CW.sr fun K2 hK2 => ?_
 refine WL.m rfl ?_
 refine WL.v (Y.nilCheck rfl) ?_
 refine WL.v (Y.fieldAddr fo_graphlook0 rfl) ?_
 refine WL.v (Y.load1 Tryd.underlying48 rfl hK.blk.mem.graphlook0 rfl) ?_
 refine WL.v (Y.len_slice Tryd.underlying48 rfl) ?_
 refine WL.st (St.makeB Tryd.underlying82 hbi hbz hbs hbb rfl rfl om_) de_ fun v15 w1 hR1 => ?_
 obtain ⟨ub, rfl, hub, hU, hx1⟩ := hR1
 have hz1 := hx1.size
 have hE := hE.thenExt hx1
 have hK := hK.ext hx1
 have hltu := hU.lt
 refine WL.a rfl ?_
 refine WL.nil (hK2 _ _ ?_); try clear hK2
 refine CW.sr fun K3 hK3 => ?_
 refine WL.a rfl ?_
 refine WL.nil (hK3 _ _ ?_); try clear hK3
 refine CW.seq fun K4 hK4 => ?_
 refine CW.sr fun K5 hK5 => ?_
 refine WL.m rfl ?_
 refine WL.v (Y.nilCheck rfl) ?_
 refine WL.v (Y.fieldAddr fo_graphlook0 rfl) ?_
 refine WL.v (Y.load1 Tryd.underlying48 rfl hK.blk.mem.graphlook0 rfl) ?_
 refine WL.v (Y.len_slice Tryd.underlying48 rfl) ?_
 refine WL.v (Y.sub rfl rfl o2_) ?_
 refine WL.a rfl ?_
 refine WL.nil (hK5 _ _ ?_); try clear hK5
 refine CW.block ?_
 refine CW.loop (X := Nat × List Bool × Value × List Dig) (fun x => [(0, .pointer (some ⟨gk, 0, none⟩)), (1, .slice (some ⟨b, 0, none⟩) l.length l.length), (5, .slice (some ⟨ub, 0, none⟩) l.length l.length), (6, x.2.2.1), (7, .int .i64 ((x.1 : Int) - 1))]) (fun x w0 => x.1 ≤ l.length ∧ Blk w0 ub TBo (boolC x.2.1) ∧ x.2.1.length = l.length ∧ Own w0 TDg 32 x.2.2.1 (flatD x.2.2.2) ∧ (∀ k, x.2.2.1.ownBlock = some k → w1.heap.size ≤ k) ∧ x.2.2.2.length ≤ l.length - x.1 ∧ headsD (ndsL l) In l.length (List.replicate l.length false) [] = headsD (ndsL l) In x.1 x.2.1 x.2.2.2 ∧ Ext w w0 ∧ w1.heap.size ≤ w0.heap.size) (fun x => x.1) (l.length, List.replicate l.length false, .slice none 0 0, []) Fr.ok ⟨Nat.le_refl _, hU, by simp, Own.nil, (fun k h => by simp [Value.ownBlock] at h), Nat.zero_le _, rfl, hE, Nat.le_refl _⟩ ?_
 intro x w2 hl2
 clear hE hK hU
 obtain ⟨k, U, v, out⟩ := x
 dsimp only at hl2 ⊢
 obtain ⟨hkl, hU, hUl, hO, hfu, hol, hh, hE, hz2⟩ := hl2
 have hK := hK0.ext hE
 have hIn := hIn0.ext hE
 obtain ⟨B, mb, cb, rfl⟩ := hO.lens
 have hlo := hO.lt
 refine CW.seq fun K6 hK6 => ?_
 refine CW.sr fun K7 hK7 => ?_
 refine WL.m rfl ?_
 refine WL.v (Y.geq rfl rfl) ?_
 refine WL.nil (hK7 _ _ ?_); try clear hK7
 (first | refine cd_ rfl ?_ ?_ | refine ce_ rfl ?_ ?_ | refine cn_ rfl ?_ ?_ | refine cb_ rfl ?_ ?_) <;> intro ht8
 ·
  -- then
  refine CW.skip ?_
  refine hK6 _ _ ?_; try clear hK6
  obtain ⟨i, rfl⟩ : ∃ i, k = i + 1 := ⟨k - 1, by omega⟩
  rw [show (((i + 1 : Nat) : Int) - 1) = (i : Int) by omega]
  obtain ⟨y, hy⟩ : ∃ y, l[i]? = some y := ⟨_, List.getElem?_eq_getElem om_⟩
  obtain ⟨⟨id, ps⟩, Ay, cy⟩ := y
  have hyn : (ndsL l)[i]? = some ⟨id, ps⟩ := by simp [hy]
  obtain ⟨ci, hci⟩ : ∃ c, In[i]? = some c := ⟨_, List.getElem?_eq_getElem om_⟩
  obtain ⟨cu, hcu⟩ : ∃ c, U[i]? = some c := ⟨_, List.getElem?_eq_getElem om_⟩
  obtain ⟨a, rfl, hma⟩ := hK0.nds.sl.at hy
  have hps0 := hK0.nds.ps _ (List.mem_of_getElem? hy)
  dsimp only [NdV.pv] at hps0
  have hps1 := hps0
  obtain ⟨_, _, _, he_, _, hcy, hcy2, _⟩ := hps1
  cases he_
  unfold maxLen at hcy2
  refine CW.seq_to (X := Value) (fun u => [(0, .pointer (some ⟨gk, 0, none⟩)), (1, .slice (some ⟨b, 0, none⟩) l.length l.length), (5, .slice (some ⟨ub, 0, none⟩) l.length l.length), (6, u), (7, .int .i64 (i : Int))]) (fun u w0 => Blk w0 ub TBo (boolC (if ci = true ∨ cu = true then setAll (ndsL l) U ps else U)) ∧ Own w0 TDg 32 u (flatD (if ci = true ∧ ¬ cu = true then out ++ [id] else out)) ∧ (∀ k, u.ownBlock = some k → w1.heap.size ≤ k) ∧ Ext w w0 ∧ w1.heap.size ≤ w0.heap.size) ?_ ?_
  ·
   skip
   refine CW.block ?_
   refine CW.seq_to (X := Value) (fun u => [(0, .pointer (some ⟨gk, 0, none⟩)), (1, .slice (some ⟨b, 0, none⟩) l.length l.length), (5, .slice (some ⟨ub, 0, none⟩) l.length l.length), (6, u), (7, .int .i64 (i : Int))]) (fun u w0 => Own w0 TDg 32 u (flatD (if ci = true ∧ ¬ cu = true then out ++ [id] else out)) ∧ (∀ k, u.ownBlock = some k → w1.heap.size ≤ k) ∧ Ext w w0 ∧ Blk w0 ub TBo (boolC U) ∧ w1.heap.size ≤ w0.heap.size) ?_ ?_
   ·
    skip
    refine CW.seq_test 36 (ci = true ∧ ¬ cu = true) ?_ ?_
    ·
     refine CW.region ?_
     refine WL.m rfl ?_
     refine WL.m rfl ?_
     refine WL.v (Y.indexAddrN Tryd.underlying82 rfl rfl sz0_bool om_) ?_
     refine WL.v (Y.load1 Tryd.underlying4 rfl (hIn.bcell hci) rfl) ?_
     refine WL.m rfl ?_
     (first | refine WL.casesD (d := 30) rfl ?_ ?_ | refine WL.casesND (d := 30) rfl ?_ ?_ | refine WL.cases (d := 30) rfl ?_ ?_) <;> intro hg30
     ·
      -- t30 = T
      refine WL.g rfl rfl (Y.move rfl) ?_
      refine WL.g rfl rfl (Y.move rfl) ?_
      refine WL.g rfl rfl (Y.indexAddrN Tryd.underlying82 rfl rfl sz0_bool om_) ?_
      refine WL.g rfl rfl (Y.load1 Tryd.underlying4 rfl (hU.bcell hcu) rfl) ?_
      refine WL.g rfl rfl (Y.not rfl) ?_
      refine WL.v (Y.pick rfl rfl) ?_
      refine WL.nil ⟨⟨_, rfl, ?_⟩, rfl, Fr.okp⟩
      exact tst_ok
     ·
      -- t30 = F
      refine WL.o rfl rfl ?_
      refine WL.o rfl rfl ?_
      refine WL.o rfl rfl ?_
      refine WL.o rfl rfl ?_
      refine WL.o rfl rfl ?_
      refine WL.v (Y.pick rfl rfl) ?_
      refine WL.nil ⟨⟨_, rfl, ?_⟩, rfl, Fr.okp⟩
      exact tst_ok
    (first | refine cd_ rfl ?_ ?_ | refine ce_ rfl ?_ ?_ | refine cn_ rfl ?_ ?_ | refine cb_ rfl ?_ ?_) <;> intro ht11
    ·
     -- then
     refine CW.region ?_
     refine WL.m rfl ?_
     refine WL.m rfl ?_
     refine WL.v (Y.nilCheck rfl) ?_
     refine WL.v (Y.fieldAddr fo_graphlook0 rfl) ?_
     refine WL.v (Y.load1 Tryd.underlying48 rfl hK.blk.mem.graphlook0 rfl) ?_
     refine WL.m rfl ?_
     refine WL.v (Y.indexAddrN Tryd.underlying48 rfl rfl sz0_apiNode om_) ?_
     refine WL.v (Y.fieldAddr fo_apiNode0 rfl) ?_
     refine WL.v (Y.load Tryd.underlying36 rfl (hma.ext hK.old).node0 (sz_apiDigest _) rfl) ?_
     refine WL.st (St.buildSlice rfl (bs1_dig _)) de_ fun v46 w3 hR3 => ?_
     obtain ⟨g46, rfl, hg46, hB46, hx3⟩ := hR3
     have hz3 := hx3.size
     have hE := hE.thenExt hx3
     refine WL.st (St.append Tryd.underlying25 Tryd.underlying25 ai_dig rfl rfl (hO.ext hx3) (Src.one hB46 (digC_length _)) one_digC (by rw [flat_length digC_length]; omega)) de_ fun v47 w4 hR4 => ?_
     obtain ⟨hO4, hc4, hf4⟩ := hR4
     have hz4 := hc4.size
     have hE := hE.step hc4 (fun k h => by have := hfu k h; omega)
     have hf4 : ∀ k, v47.ownBlock = some k → w1.heap.size ≤ k := by
      rcases hf4 with h | h
      ·
       intro k hk; rw [h] at hk; exact hfu k hk
      ·
       intro k hk; have := h k hk; omega
     have hU := (hU.ext hx3).chg hc4 (fun h => by have := hfu _ h; omega)
     refine WL.a rfl ?_
     refine WL.nil ?_
     exact ⟨v47, Fr.ok, by rw [if_pos (by assumption)]; simpa [flatD] using hO4, hf4, hE, hU, by omega⟩
    refine CW.skip ?_
    exact ⟨.slice B mb cb, Fr.ok, by rw [if_neg (by assumption)]; exact hO, hfu, hE, hU, by omega⟩
   rintro u w5 hj5
   clear hE hK hU hIn hO hfu
   obtain ⟨hO, hfu, hE, hU, hz5⟩ := hj5
   have hK := hK0.ext hE
   have hIn := hIn0.ext hE
   refine CW.seq_test 57 (ci = true ∨ cu = true) ?_ ?_
   ·
    refine CW.region ?_
    refine WL.m rfl ?_
    refine WL.m rfl ?_
    refine WL.v (Y.indexAddrN Tryd.underlying82 rfl rfl sz0_bool om_) ?_
    refine WL.v (Y.load1 Tryd.underlying4 rfl (hIn.bcell hci) rfl) ?_
    refine WL.m rfl ?_
    (first | refine WL.casesD (d := 52) rfl ?_ ?_ | refine WL.casesND (d := 52) rfl ?_ ?_ | refine WL.cases (d := 52) rfl ?_ ?_) <;> intro hg52
    ·
     -- t52 = T
     refine WL.o rfl rfl ?_
     refine WL.o rfl rfl ?_
     refine WL.o rfl rfl ?_
     refine WL.o rfl rfl ?_
     refine WL.v (Y.pick rfl rfl) ?_
     refine WL.nil ⟨⟨_, rfl, ?_⟩, rfl, Fr.okp⟩
     exact tst_ok
    ·
     -- t52 = F
     refine WL.g rfl rfl (Y.move rfl) ?_
     refine WL.g rfl rfl (Y.move rfl) ?_
     refine WL.g rfl rfl (Y.indexAddrN Tryd.underlying82 rfl rfl sz0_bool om_) ?_
     refine WL.g rfl rfl (Y.load1 Tryd.underlying4 rfl (hU.bcell hcu) rfl) ?_
     refine WL.v (Y.pick rfl rfl) ?_
     refine WL.nil ⟨⟨_, rfl, ?_⟩, rfl, Fr.okp⟩
     exact tst_ok
   (first | refine cd_ rfl ?_ ?_ | refine ce_ rfl ?_ ?_ | refine cn_ rfl ?_ ?_ | refine cb_ rfl ?_ ?_) <;> intro ht12
   ·
    -- then
    refine CW.sr fun K13 hK13 => ?_
    refine WL.m rfl ?_
    refine WL.v (Y.nilCheck rfl) ?_
    refine WL.v (Y.fieldAddr fo_graphlook0 rfl) ?_
    refine WL.v (Y.load1 Tryd.underlying48 rfl hK.blk.mem.graphlook0 rfl) ?_
    refine WL.m rfl ?_
    refine WL.v (Y.indexAddrN Tryd.underlying48 rfl rfl sz0_apiNode om_) ?_
    refine WL.v (Y.fieldAddr fo_apiNode1 rfl) ?_
    refine WL.v (Y.load1 Tryd.underlying25 rfl (hma.ext hK.old).node1 rfl) ?_
    refine WL.v (Y.len_slice Tryd.underlying25 rfl) ?_
    refine WL.m rfl ?_
    refine WL.nil (hK13 _ _ ?_); try clear hK13
    refine CW.block ?_
    refine CW.loop (X := Nat) (fun x => [(0, .pointer (some ⟨gk, 0, none⟩)), (1, .slice (some ⟨b, 0, none⟩) l.length l.length), (5, .slice (some ⟨ub, 0, none⟩) l.length l.length), (6, u), (7, .int .i64 (i : Int)), (65, .slice Ay ps.length cy), (66, .int .i64 (ps.length : Int)), (67, .int .i64 (x : Int))]) (fun x w0 => x ≤ ps.length ∧ Blk w0 ub TBo (boolC (setAll (ndsL l) U (ps.take x))) ∧ Own w0 TDg 32 u (flatD (if ci = true ∧ ¬ cu = true then out ++ [id] else out)) ∧ Ext w w0 ∧ w5.heap.size ≤ w0.heap.size) (fun x => ps.length - x) 0 Fr.ok ⟨Nat.zero_le _, by simpa [setAll] using hU, hO, hE, Nat.le_refl _⟩ ?_
    intro x w6 hl6
    clear hE hK hU hO
    obtain ⟨hxp, hU, hO, hE, hz6⟩ := hl6
    have hK := hK0.ext hE
    refine CW.sr fun K14 hK14 => ?_
    refine WL.v (Y.lss rfl rfl) ?_
    refine WL.nil (hK14 _ _ ?_); try clear hK14
    refine CW.seq fun K15 hK15 => ?_
    (first | refine cd_ rfl ?_ ?_ | refine ce_ rfl ?_ ?_ | refine cn_ rfl ?_ ?_ | refine cb_ rfl ?_ ?_) <;> intro ht16
    ·
     -- then
     refine CW.skip ?_
     refine hK15 _ _ ?_; try clear hK15
     refine CW.seq fun K17 hK17 => ?_
     refine CW.block ?_
     refine CW.seq fun K18 hK18 => ?_
     obtain ⟨d, hd⟩ : ∃ d, ps[x]? = some d := ⟨_, List.getElem?_eq_getElem om_⟩
     obtain ⟨a2, rfl, hma2⟩ := hps0.at hd
     have hdi := mem_idsTake (ok_par hK0.ok hyn (List.mem_of_getElem? hd))
     have hix := ixN_lt hdi
     rw [hnl] at hix
     obtain ⟨jf, hf⟩ := placed_ix hdi
     obtain ⟨cb2, hcb2⟩ : ∃ cb, (setAll (ndsL l) U (ps.take x))[ixN (ndsL l) d]? = some cb := ⟨_, List.getElem?_eq_getElem (by rw [setAll_length]; omega)⟩
     refine CW.region ?_
     refine WL.v (Y.indexAddrN Tryd.underlying25 rfl rfl sz0_apiDigest om_) ?_
     refine WL.v (Y.load Tryd.underlying36 rfl (hma2.ext hK.old) (sz_apiDigest _) rfl) ?_
     refine as_apiDigest rfl (by simp) de_ fun g9 w7 hx7 hg9 hB9 => ?_
     have hlt9 := hB9.lt; have hz7 := hx7.size
     have hM9 := hB9.mem; have hz7 := hx7.size; have hE := hE.thenExt hx7; have hK := hK.ext hx7
     refine WL.nil (hK18 _ _ ?_); try clear hK18
     refine CW.head 8 kr_ kr_ fun w8 hx8 => ?_
     skip; have hz8 := hx8.size; have hE := hE.thenExt hx8; have hK := hK.ext hx8; have hB9 := hB9.ext hx8
     refine HL.val (Y.move rfl) de_ ?_
     refine HL.val (Y.move rfl) de_ ?_
     refine HL.val (Y.nilCheck rfl) de_ ?_
     refine HL.val (Y.fieldAddr fo_graphlook1 rfl) de_ ?_
     refine HL.val (Y.load1 Tryd.underlying73 rfl hK.blk.mem.graphlook1 rfl) de_ ?_
     refine HL.val (Y.load Tryd.underlying36 rfl hB9.mem (sz_apiDigest _) rfl) de_ ?_
     refine HL.val (Y.lookupAt keyDig (fun _ => rfl) Tryd.underlying73 rfl rfl hK.map hf rfl) de_ ?_
     refine HL.val (Y.indexAddrN Tryd.underlying82 rfl rfl sz0_bool om_) de_ ?_
     refine HL.nil ?_
     refine WL.storeB rfl rfl rfl sz_bool ((hU.ext hx7).ext hx8) hcb2 (fun w9 hc9 hB9_ => ?_)
     have hz9 := hc9.size; have hE := hE.step hc9 (fun k h => by omega); have hK := hK.chg hc9 no_ no_ no_ (fun k h => by omega); have hB9 := hB9.chg hc9 no_
     have hU := hB9_
     have hO := ((hO.ext hx7).ext hx8).chg hc9 (fun k hk h => by have := hfu k hk; omega)
     refine WL.nil (hK17 _ _ ?_); try clear hK17
     refine CW.region ?_
     refine WL.v (Y.add rfl rfl o2_) ?_
     refine WL.m rfl ?_
     refine WL.nil ?_
     refine ⟨x + 1, by show ps.length - (x + 1) < ps.length - x; omega, Fr.ok, by show x + 1 ≤ ps.length; omega, ?_, hO, hE, by omega⟩
     show Blk _ _ _ (boolC (setAll _ _ (ps.take (x + 1))))
     rw [take_succ hd, setAll_app]
     exact hU
    refine CW.exit ?_
    exact ⟨u, Fr.ok, by rw [if_pos (by assumption)]; rw [List.take_of_length_le om_] at hU; exact hU, hO, hfu, hE, by omega⟩
   refine CW.skip ?_
   exact ⟨u, Fr.ok, by rw [if_neg (by assumption)]; exact hU, hO, hfu, hE, by omega⟩
  rintro u w10 hj10
  clear hE hK hU hO hfu
  obtain ⟨hU, hO, hfu, hE, hz10⟩ := hj10
  refine CW.region ?_
  refine WL.m rfl ?_
  refine WL.v (Y.sub rfl rfl o2_) ?_
  refine WL.a rfl ?_
  refine WL.nil ?_
  refine ⟨(i, (if ci = true ∨ cu = true then setAll (ndsL l) U ps else U), u, (if ci = true ∧ ¬ cu = true then out ++ [id] else out)), by show i < i + 1; omega, Fr.ok, by show i ≤ _; omega, hU, ?_, hO, hfu, ?_, ?_, hE, by omega⟩
  ·
   show (ite _ _ _ : List Bool).length = _
   split <;> simp [setAll_length, hUl]
  ·
   show (ite _ _ _ : List Dig).length ≤ l.length - i
   split <;> (try simp only [List.length_append, List.length_singleton]) <;> omega
  ·
   show _ = headsD (ndsL l) In i _ _
   rw [hh, headsD_at hyn]
   simp only [hci, hcu, Option.some.injEq]
 refine CW.exit ?_
 refine hK4 _ _ ?_; try clear hK4
 refine CW.sr fun K19 hK19 => ?_
 refine WL.m rfl ?_
 refine WL.call Tryd.func70 rfl rfl rfl (sort_gen cfO lt_cfO Tryd.func71 rfl rfl gorder_any _ _ _ _ _ hO om_) (by simp) ?_; rintro v81 w11 hR11
 obtain ⟨rfl, hO11, hc11⟩ := hR11
 have hz11 := hc11.size
 have hE := hE.step hc11 (fun k h => by have := hfu k h; omega)
 refine WL.nil (hK19 _ _ ?_); try clear hK19
 refine CW.sr fun K20 hK20 => ?_
 refine WL.m rfl ?_
 refine WL.a rfl ?_
 refine WL.nil (hK20 _ _ ?_); try clear hK20
 refine CW.ret ⟨_, rfl, ?_⟩
 refine ⟨?_, fun k hk => by have := hfu k hk; omega, hE⟩
 have hk0 : k = 0 := by omega
 subst hk0
 rw [headsL, hnl, hh]
 exact hO11
end Go.Proofs.YtmehkigmnpjcjaaDoor
/- graph.Heads, walked. No condition. -/
namespace Go.Fw
open Go.RowKit
theorem Blk.slV {w : World} {g : Nat} {e : TypeId} {ds : List (Value × List Dig)} (h : Blk w g e (ds.map Prod.fst)) (hl : ds.length ≤ maxLen) : Sl w (fun x : Value × List Dig => [x.1]) 1 (.slice (some ⟨g, 0, none⟩) ds.length ds.length) ds :=
 ⟨_, _, _, rfl, rfl, Nat.le_refl _, hl, fun i x hi => ⟨_, rfl, by
  rw [Nat.mul_one]
  exact h.mem.sub i fun j v hj => by
   cases j with
   | zero => simp at hj; subst hj; simp [hi]
   | succ j => simp at hj⟩⟩
end Go.Fw
namespace Go.Proofs.YtmehkigmnpjcjaaDoor
open Go.RowKit Go.Fw Go.Pl Go.Sort
theorem info_sd : ∃ i : TypeInfo, Tryd.prog.info? TSd = some i ∧ i.zero = some (.slice none 0 0) ∧ i.size = 1 := by
 have h : (Tryd.prog.info? TSd).map (fun i => (i.zero, i.size)) = some (some (.slice none 0 0), 1) := by kernel_rfl
 cases hi : Tryd.prog.info? TSd with
 | none => simp [hi] at h
 | some i => simp [hi] at h; exact ⟨i, rfl, h.1, h.2⟩
theorem bs1_sd (A : Option Addr) (m c : Nat) (w : World) : (Instr.buildSlice 157 1 [(0, .slice A m c)].toArray).run Tryd.prog w = .ok (.slice (some ⟨w.heap.size, 0, none⟩) 1 1) (w.alloc (.cells [.slice A m c].toArray TSd)) := by
 obtain ⟨i, hi, hz, hs⟩ := info_sd
 exact run_bs1 Tryd.underlying157 hi hz om_ om_ rfl (by rw [hs]; rfl) w
theorem wrongQ_in {l : List Nd} {ids : List Dig} (h : wrongQ l ids = 0) : ∀ d ∈ ids, d ∈ idsL l := by
 intro d hd
 unfold wrongQ at h
 split at h
 ·
  rename_i h1; exact absurd h h1
 ·
  split at h
  ·
   omega
  ·
   rename_i h2
   by_cases hm : d ∈ idsL l
   ·
    exact hm
   ·
    exact absurd ⟨d, hd, hm⟩ h2
set_option maxRecDepth 100000 in
set_option maxHeartbeats 1000000 in
theorem gHeads_any (u v0 : Value) (l : List NdV) (ids : List Dig) (w : World) (hl : Nds w u l) (hd : Sl w digC 32 v0 ids) : Calls Tryd.prog 25 #[u, v0] w (Ret fun v w' => ∃ hv, v = .tuple #[hv, .int .i64 (wrongQ (ndsL l) ids)] ∧ Own w' TDg 32 hv (flatD (if wrongQ (ndsL l) ids = 0 then headsL (ndsL l) (mark0 (ndsL l) ids) else [])) ∧ (∀ k, hv.ownBlock = some k → w.heap.size ≤ k) ∧ Ext w w') := by
 have hl0 := hl
 obtain ⟨A, c, rfl, hmc, hcm⟩ := hl.sl.lens
 unfold maxLen at hcm
 have hd0 := hd
 obtain ⟨A1, m1, c1, rfl, hdm, hdc, hdx, hdg⟩ := hd
 unfold maxLen at hdx
 have hnl : (ndsL l).length = l.length := by simp
 obtain ⟨bi, hbi, hbz, hbs, hbb⟩ := info_boolT
 refine calls_of_CW 42 [4, 5] [(0, .slice A l.length c), (1, .slice A1 m1 c1)] Tryd.func25 rfl rfl rfl (by simp) args2 ?_
 have hE : Ext w w := Chg.refl
 refine CW.sr fun K1 hK1 => ?_
 refine WL.a rfl ?_
 refine WL.a rfl ?_
 refine WL.nil (hK1 _ _ ?_); try clear hK1
 refine CW.sr fun K2 hK2 => ?_
 refine WL.m rfl ?_
 refine WL.m rfl ?_
 refine WL.st (St.buildSlice rfl (bs1_sd _ _ _)) de_ fun v14 w1 hR1 => ?_
 obtain ⟨g14, rfl, hg14, hB14, hx1⟩ := hR1
 have hz1 := hx1.size
 have hE := hE.thenExt hx1
 refine WL.call Tryd.func49 rfl rfl rfl (gbegin_any _ _ l [(.slice A1 m1 c1, ids)] _ (hl0.ext hx1) (Blk.slV (ds := [(.slice A1 m1 c1, ids)]) hB14 (by simp [maxLen])) (fun x hx => by simp at hx; subst hx; exact hd0.ext hx1)) (by simp) ?_; rintro v15 w2 hR2
 obtain ⟨p, rfl, hx2, hp⟩ := hR2
 have hz2 := hx2.size
 have hE := hE.thenExt hx2
 have hfl : ([((.slice A1 m1 c1 : Value), ids)].map Prod.snd).flatten = ids := by simp
 simp only [hfl] at hp ⊢
 refine WL.m rfl ?_
 refine WL.v (Y.extract rfl rfl) ?_
 refine WL.v (Y.extract rfl rfl) ?_
 refine WL.a rfl ?_
 refine WL.a rfl ?_
 refine WL.nil (hK2 _ _ ?_); try clear hK2
 refine CW.seq fun K3 hK3 => ?_
 refine CW.sr fun K4 hK4 => ?_
 refine WL.m rfl ?_
 refine WL.v (Y.neq rfl rfl) ?_
 refine WL.nil (hK4 _ _ ?_); try clear hK4
 (first | refine cd_ rfl ?_ ?_ | refine ce_ rfl ?_ ?_ | refine cn_ rfl ?_ ?_ | refine cb_ rfl ?_ ?_) <;> intro ht5
 ·
  -- then
  refine CW.sr fun K6 hK6 => ?_
  refine WL.m rfl ?_
  refine WL.a rfl ?_
  refine WL.a rfl ?_
  refine WL.nil (hK6 _ _ ?_); try clear hK6
  refine CW.ret ⟨_, rfl, ?_⟩
  have he : ¬ wrongQ (ndsL l) ids = 0 := by assumption
  exact ⟨_, rfl, by rw [if_neg he]; exact Own.nil, (fun k h => by simp [Value.ownBlock] at h), hE⟩
 refine CW.skip ?_
 refine hK3 _ _ ?_; try clear hK3
 refine CW.seq fun K7 hK7 => ?_
 have hq0 : wrongQ (ndsL l) ids = 0 := Decidable.not_not.1 (by assumption)
 obtain ⟨gk, r, sb, rfl, hK⟩ := hp hq0
 have hin := wrongQ_in hq0
 have hln := ok_len hK.ok
 have hltK := hK.lt
 have hnew := hK.new
 refine CW.region ?_
 refine WL.m rfl ?_
 refine WL.v (Y.len_slice Tryd.underlying48 rfl) ?_
 refine WL.st (St.makeB Tryd.underlying82 hbi hbz hbs hbb rfl rfl om_) de_ fun v23 w3 hR3 => ?_
 obtain ⟨b, rfl, hb, hIn, hx3⟩ := hR3
 have hz3 := hx3.size
 have hE := hE.thenExt hx3
 have hK := hK.ext hx3
 have hltb := hIn.lt
 refine WL.a rfl ?_
 refine WL.nil (hK7 _ _ ?_); try clear hK7
 refine CW.seq fun K8 hK8 => ?_
 refine CW.sr fun K9 hK9 => ?_
 refine WL.m rfl ?_
 refine WL.v (Y.len_slice Tryd.underlying25 rfl) ?_
 refine WL.m rfl ?_
 refine WL.nil (hK9 _ _ ?_); try clear hK9
 refine CW.block ?_
 refine CW.loop (X := Nat) (fun x => [(6, .pointer (some ⟨gk, 0, none⟩)), (8, .slice (some ⟨b, 0, none⟩) l.length l.length), (24, .slice A1 m1 c1), (25, .int .i64 (m1 : Int)), (26, .int .i64 (x : Int))]) (fun x w0 => x ≤ m1 ∧ Blk w0 b TBo (boolC (setAll (ndsL l) (List.replicate l.length false) (ids.take x))) ∧ Ext w w0 ∧ LookAt w1 w0 gk r sb (.slice A l.length c) l (List.replicate l.length false)) (fun x => m1 - x) 0 Fr.ok ⟨Nat.zero_le _, by simpa [setAll] using hIn, hE, hK⟩ ?_
 intro x w4 hl4
 clear hE hK hIn
 obtain ⟨hxm, hIn, hE, hK⟩ := hl4
 have hltK2 := hK.lt
 have hltb2 := hIn.lt
 have hzE := hE.size
 refine CW.sr fun K10 hK10 => ?_
 refine WL.v (Y.lss rfl rfl) ?_
 refine WL.nil (hK10 _ _ ?_); try clear hK10
 refine CW.seq fun K11 hK11 => ?_
 (first | refine cd_ rfl ?_ ?_ | refine ce_ rfl ?_ ?_ | refine cn_ rfl ?_ ?_ | refine cb_ rfl ?_ ?_) <;> intro ht12
 ·
  -- then
  refine CW.skip ?_
  refine hK11 _ _ ?_; try clear hK11
  refine CW.seq fun K13 hK13 => ?_
  refine CW.block ?_
  refine CW.seq fun K14 hK14 => ?_
  obtain ⟨d, hd⟩ : ∃ d, ids[x]? = some d := ⟨_, List.getElem?_eq_getElem om_⟩
  obtain ⟨a, rfl, hma⟩ := hdg _ _ hd
  have hix := ixN_lt (hin d (List.mem_of_getElem? hd))
  rw [hnl] at hix
  obtain ⟨jf, hf⟩ := placed_ix (hin d (List.mem_of_getElem? hd))
  obtain ⟨cb, hcb⟩ : ∃ cb, (setAll (ndsL l) (List.replicate l.length false) (ids.take x))[ixN (ndsL l) d]? = some cb := ⟨_, List.getElem?_eq_getElem (by rw [setAll_length, List.length_replicate]; omega)⟩
  refine CW.region ?_
  refine WL.v (Y.indexAddrN Tryd.underlying25 rfl rfl sz0_apiDigest om_) ?_
  refine WL.v (Y.load Tryd.underlying36 rfl (hma.ext hE) (sz_apiDigest _) rfl) ?_
  refine as_apiDigest rfl (by simp) de_ fun g10 w5 hx5 hg10 hB10 => ?_
  have hlt10 := hB10.lt; have hz5 := hx5.size
  have hM10 := hB10.mem; have hz5 := hx5.size; have hE := hE.thenExt hx5
  refine WL.nil (hK14 _ _ ?_); try clear hK14
  refine CW.head 8 kr_ kr_ fun w6 hx6 => ?_
  skip; have hz6 := hx6.size; have hE := hE.thenExt hx6; have hB10 := hB10.ext hx6
  refine HL.val (Y.move rfl) de_ ?_
  refine HL.val (Y.move rfl) de_ ?_
  refine HL.val (Y.nilCheck rfl) de_ ?_
  refine HL.val (Y.fieldAddr fo_graphlook1 rfl) de_ ?_
  refine HL.val (Y.load1 Tryd.underlying73 rfl ((hK.ext hx5).ext hx6).blk.mem.graphlook1 rfl) de_ ?_
  refine HL.val (Y.load Tryd.underlying36 rfl hB10.mem (sz_apiDigest _) rfl) de_ ?_
  refine HL.val (Y.lookupAt keyDig (fun _ => rfl) Tryd.underlying73 rfl rfl ((hK.ext hx5).ext hx6).map hf rfl) de_ ?_
  refine HL.val (Y.indexAddrN Tryd.underlying82 rfl rfl sz0_bool om_) de_ ?_
  refine HL.nil ?_
  refine WL.storeB rfl rfl rfl sz_bool ((hIn.ext hx5).ext hx6) hcb (fun w7 hc7 hB7_ => ?_)
  have hz7 := hc7.size; have hE := hE.step hc7 (fun k h => by omega); have hB10 := hB10.chg hc7 no_
  have hK := ((hK.ext hx5).ext hx6).chg hc7 no_ no_ no_ (fun k h => by omega)
  refine WL.nil (hK13 _ _ ?_); try clear hK13
  refine CW.region ?_
  refine WL.v (Y.add rfl rfl o2_) ?_
  refine WL.m rfl ?_
  refine WL.nil ?_
  refine ⟨x + 1, by show m1 - (x + 1) < m1 - x; omega, Fr.ok, by show x + 1 ≤ m1; omega, ?_, hE, hK⟩
  show Blk _ _ _ (boolC (setAll _ _ (ids.take (x + 1))))
  rw [take_succ hd, setAll_app]
  exact hB7_
 refine CW.exit ?_
 refine hK8 _ _ ?_; try clear hK8
 refine CW.sr fun K15 hK15 => ?_
 refine WL.m rfl ?_
 refine WL.m rfl ?_
 refine WL.call Tryd.func50 rfl rfl rfl (gheads_any w1 _ gk r sb b _ l _ (mark0 (ndsL l) ids) hK (by rw [mark0, hnl]; rw [List.take_of_length_le om_] at hIn; exact hIn) (by rw [mark0_length, hnl])) (by simp) ?_; rintro v41 w8 hR8
 obtain ⟨hO, hfu, hx8⟩ := hR8
 have hz8 := hx8.size
 have hzE2 := hE.size
 have hE := hE.thenExt hx8
 refine WL.a rfl ?_
 refine WL.a rfl ?_
 refine WL.nil (hK15 _ _ ?_); try clear hK15
 refine CW.ret ⟨_, rfl, ?_⟩
 exact ⟨_, by rw [hq0], by rw [if_pos hq0]; exact hO, fun k hk => by have := hfu k hk; omega, hE⟩
end Go.Proofs.YtmehkigmnpjcjaaDoor
/- graph.Above, Common, Within, walked. No condition. -/
namespace Go.Proofs.YtmehkigmnpjcjaaDoor
open Go.RowKit Go.Fw Go.Pl Go.Sort
end Go.Proofs.YtmehkigmnpjcjaaDoor
/- graph.Common, walked. No condition. -/
namespace Go.Pl
end Go.Pl
namespace Go.Proofs.YtmehkigmnpjcjaaDoor
open Go.RowKit Go.Fw Go.Pl Go.Sort
end Go.Proofs.YtmehkigmnpjcjaaDoor
/- graph.Above, walked. No condition. -/
namespace Go.Pl
open Go.Fw
end Go.Pl
namespace Go.Proofs.YtmehkigmnpjcjaaDoor
open Go.RowKit Go.Fw Go.Pl Go.Sort
end Go.Proofs.YtmehkigmnpjcjaaDoor
/- Several texts as one: Gt, Gu, Gp, Gq, Gw, Gx. -/
/- The order of marked nodes: what it computes. No condition. -/
namespace Go.Pl
open Go.Fw
end Go.Pl
/- The order of marked nodes, walked. No condition. (NOT BUILT: fills are lacking) -/
namespace Go.Proofs.YtmehkigmnpjcjaaDoor
open Go.RowKit Go.Fw Go.Pl Go.Sort
end Go.Proofs.YtmehkigmnpjcjaaDoor
/- The plain law of graphs: which stands above which; marks, heads, orders as both sides make them. No condition; no program. -/
namespace Go.Pl
open Go.Fw
variable {l : List Nd}
theorem ids_at {i : Nat} {n : Nd} (h : l[i]? = some n) : (idsL l)[i]? = some n.id := by simp [idsL, h]
theorem ok_new (h : (readE l).2 = 0) {i : Nat} {n : Nd} (hi : l[i]? = some n) : n.id ∉ idsL (l.take i) := (wrong_ok (ok_at h hi)).2.2.1
theorem take_ids {j i : Nat} {n : Nd} (hj : l[j]? = some n) (h : j < i) : n.id ∈ idsL (l.take i) :=
 List.mem_map.2 ⟨n, List.mem_of_getElem? (i := j) (by rw [List.getElem?_take, if_pos h]; exact hj), rfl⟩
theorem ixN_at (h : (readE l).2 = 0) {i : Nat} {n : Nd} (hi : l[i]? = some n) : ixN l n.id = i := by
 have h1 := findI_at (ids := idsL l) (i := i) (ids_at hi) (fun j hj he => by
  obtain ⟨m, hm, hme⟩ : ∃ m, l[j]? = some m ∧ m.id = n.id := by simpa [idsL] using he
  exact ok_new h hi (hme ▸ take_ids hm hj))
 rw [findI, if_pos (List.mem_of_getElem? (ids_at hi))] at h1
 unfold ixN; omega
theorem at_ixN {d : Dig} (h : d ∈ idsL l) : ∃ n, l[ixN l d]? = some n ∧ n.id = d := by
 have hlt := ixN_lt h
 refine ⟨l[ixN l d], List.getElem?_eq_getElem hlt, ?_⟩
 have h1 : (idsL l)[(idsL l).idxOf d]'(List.idxOf_lt_length_iff.2 h) = d := List.getElem_idxOf (List.idxOf_lt_length_iff.2 h)
 simp only [idsL, List.getElem_map] at h1
 exact h1
theorem ixN_inj {a b : Dig} (ha : a ∈ idsL l) (hb : b ∈ idsL l) (h : ixN l a = ixN l b) : a = b := by
 obtain ⟨n, hn, rfl⟩ := at_ixN ha
 obtain ⟨m, hm, rfl⟩ := at_ixN hb
 rw [h, hm] at hn; cases hn; rfl
theorem mem_ids_at {i : Nat} {n : Nd} (h : l[i]? = some n) : n.id ∈ idsL l := List.mem_of_getElem? (ids_at h)
theorem ix_par (h : (readE l).2 = 0) {i : Nat} {n : Nd} (hi : l[i]? = some n) {p : Dig} (hp : p ∈ n.ps) : p ∈ idsL l ∧ ixN l p < i := by
 obtain ⟨m, hm, rfl⟩ := List.mem_map.1 (ok_par h hi hp)
 obtain ⟨j, hj⟩ := List.mem_iff_getElem?.1 hm
 rw [List.getElem?_take] at hj
 split at hj
 ·
  exact ⟨mem_ids_at hj, by rw [ixN_at h hj]; assumption⟩
 ·
  cases hj
inductive Ab (l : List Nd) : Dig → Dig → Prop
 | refl (d : Dig) : Ab l d d
 | step {n : Nd} {p d : Dig} : n ∈ l → p ∈ n.ps → Ab l p d → Ab l n.id d
theorem Ab.trans {a b c : Dig} (h : Ab l a b) (k : Ab l b c) : Ab l a c := by
 induction h with
 | refl d => exact k
 | step hn hp _ ih => exact .step hn hp (ih k)
theorem Ab.inv {a d : Dig} (h : Ab l a d) : a = d ∨ ∃ n ∈ l, n.id = a ∧ ∃ p ∈ n.ps, Ab l p d := by
 cases h with
 | refl d => exact .inl rfl
 | step hn hp h => exact .inr ⟨_, hn, rfl, _, hp, h⟩
theorem nd_eq (h : (readE l).2 = 0) {n : Nd} {i : Nat} {m : Nd} (hn : n ∈ l) (hm : l[i]? = some m) (e : n.id = m.id) : n = m := by
 obtain ⟨j, hj⟩ := List.mem_iff_getElem?.1 hn
 have h1 := ixN_at h hj
 rw [e, ixN_at h hm] at h1
 subst h1
 rw [hm] at hj; cases hj; rfl
theorem Ab.inv_at (h : (readE l).2 = 0) {i : Nat} {n : Nd} (hi : l[i]? = some n) {d : Dig} (k : Ab l n.id d) : n.id = d ∨ ∃ p ∈ n.ps, Ab l p d := by
 rcases k.inv with e | ⟨m, hm, e, p, hp, hpd⟩
 ·
  exact .inl e
 ·
  rw [nd_eq h hm hi e] at hp
  exact .inr ⟨p, hp, hpd⟩
theorem Ab.mem (h : (readE l).2 = 0) {a d : Dig} (k : Ab l a d) : a ∈ idsL l → d ∈ idsL l := by
 induction k with
 | refl d => exact id
 | step hn hp _ ih =>
  intro _
  obtain ⟨j, hj⟩ := List.mem_iff_getElem?.1 hn
  exact ih (ix_par h hj hp).1
theorem Ab.ix (h : (readE l).2 = 0) {a d : Dig} (k : Ab l a d) : a ∈ idsL l → ixN l d ≤ ixN l a ∧ (ixN l d = ixN l a → a = d) := by
 induction k with
 | refl d => exact fun _ => ⟨Nat.le_refl _, fun _ => rfl⟩
 | step hn hp _ ih =>
  intro _
  obtain ⟨j, hj⟩ := List.mem_iff_getElem?.1 hn
  have h1 := ix_par h hj hp
  have h2 := ih h1.1
  rw [ixN_at h hj]
  exact ⟨by omega, fun e => by omega⟩
theorem bit_iff {S : List Bool} {d : Dig} : bitAt S l d = true ↔ S[ixN l d]? = some true := by
 unfold bitAt
 cases S[ixN l d]? with
 | none => simp
 | some b => simp
theorem setAll_get : ∀ {ds : List Dig} {S : List Bool} {i : Nat}, (setAll l S ds)[i]? = some true ↔ S[i]? = some true ∨ (i < S.length ∧ ∃ d ∈ ds, ixN l d = i)
 | [], S, i => by simp [setAll]
 | d :: ds, S, i => by
  have h := setAll_get (ds := ds) (S := S.set (ixN l d) true) (i := i)
  rw [show setAll l S (d :: ds) = setAll l (S.set (ixN l d) true) ds from rfl, h, List.length_set]
  by_cases e : ixN l d = i
  ·
   subst e
   by_cases hl : ixN l d < S.length
   ·
    simp [List.getElem?_set, hl]
   ·
    have : S[ixN l d]? = none := List.getElem?_eq_none om_
    simp [List.getElem?_set, hl, this]
  ·
   simp [List.getElem?_set, e]
theorem setAll_bit {ds : List Dig} {S : List Bool} {d : Dig} (hl : S.length = l.length) (hd : d ∈ idsL l) (hds : ∀ p ∈ ds, p ∈ idsL l) : bitAt (setAll l S ds) l d = true ↔ bitAt S l d = true ∨ d ∈ ds := by
 rw [bit_iff, bit_iff, setAll_get, hl]
 have := ixN_lt hd
 constructor
 ·
  rintro (h | ⟨_, p, hp, e⟩)
  ·
   exact .inl h
  ·
   exact .inr (ixN_inj (hds p hp) hd e ▸ hp)
 ·
  rintro (h | h)
  ·
   exact .inl h
  ·
   exact .inr ⟨this, d, h, rfl⟩
theorem rep_bit {k : Nat} {d : Dig} : bitAt (List.replicate k false) l d = false := by
 unfold bitAt
 rw [List.getElem?_replicate]
 split <;> rfl
theorem mark0_bit {ids : List Dig} {d : Dig} (hd : d ∈ idsL l) (hin : ∀ p ∈ ids, p ∈ idsL l) : bitAt (mark0 l ids) l d = true ↔ d ∈ ids := by
 rw [mark0, setAll_bit (by simp) hd hin, rep_bit]
 simp
theorem upd_bit (h : (readE l).2 = 0) {S : List Bool} (hl : S.length = l.length) {k : Nat} {n : Nd} (hk : l[k]? = some n) {d : Dig} (hd : d ∈ idsL l) : bitAt (upd l S k) l d = true ↔ bitAt S l d = true ∨ (bitAt S l n.id = true ∧ d ∈ n.ps) := by
 by_cases hs : S[k]? = some true
 ·
  rw [upd_yes hk hs, setAll_bit hl hd (fun p hp => (ix_par h hk hp).1)]
  have : bitAt S l n.id = true := by rw [bit_iff, ixN_at h hk]; exact hs
  simp [this]
 ·
  rw [upd_no hs]
  have : ¬ bitAt S l n.id = true := by rw [bit_iff, ixN_at h hk]; exact hs
  simp [this]
theorem markD_bit (h : (readE l).2 = 0) : ∀ {k : Nat} {S : List Bool}, k ≤ l.length → S.length = l.length → ∀ {d : Dig}, d ∈ idsL l → (bitAt (markD l k S) l d = true ↔ bitAt S l d = true ∨ ∃ a ∈ idsL l, ixN l a < k ∧ bitAt S l a = true ∧ Ab l a d)
 | 0, S, _, _, d, _ => by simp [markD]
 | k + 1, S, hk, hl, d, hd => by
  obtain ⟨n, hn⟩ : ∃ n, l[k]? = some n := ⟨_, List.getElem?_eq_getElem om_⟩
  have hni := mem_ids_at hn
  have hnx := ixN_at h hn
  rw [markD, markD_bit h om_ (by rw [upd_length]; exact hl) hd, upd_bit h hl hn hd]
  constructor
  ·
   rintro ((h1 | ⟨h1, h2⟩) | ⟨a, ha, hak, hab, had⟩)
   ·
    exact .inl h1
   ·
    exact .inr ⟨n.id, hni, by omega, h1, .step (List.mem_of_getElem? hn) h2 (.refl _)⟩
   ·
    rcases (upd_bit h hl hn ha).1 hab with h1 | ⟨h1, h2⟩
    ·
     exact .inr ⟨a, ha, by omega, h1, had⟩
    ·
     exact .inr ⟨n.id, hni, by omega, h1, .step (List.mem_of_getElem? hn) h2 had⟩
  ·
   rintro (h1 | ⟨a, ha, hak, hab, had⟩)
   ·
    exact .inl (.inl h1)
   ·
    by_cases hx : ixN l a < k
    ·
     exact .inr ⟨a, ha, hx, (upd_bit h hl hn ha).2 (.inl hab), had⟩
    ·
     have e : a = n.id := ixN_inj ha hni om_
     subst e
     rcases had.inv_at h hn with e | ⟨p, hp, hpd⟩
     ·
      exact .inl (.inl (e ▸ hab))
     ·
      have hpi := ix_par h hn hp
      exact .inr ⟨p, hpi.1, hpi.2, (upd_bit h hl hn hpi.1).2 (.inr ⟨hab, hp⟩), hpd⟩
abbrev Under (l : List Nd) (ids : List Dig) (d : Dig) : Prop := ∃ a ∈ ids, Ab l a d
theorem markF_bit (h : (readE l).2 = 0) {ids : List Dig} (hin : ∀ p ∈ ids, p ∈ idsL l) {d : Dig} (hd : d ∈ idsL l) : bitAt (markF l ids) l d = true ↔ Under l ids d := by
 rw [markF, markD_bit h (Nat.le_refl _) mark0_length hd]
 constructor
 ·
  rintro (h1 | ⟨a, ha, _, hab, had⟩)
  ·
   exact ⟨d, (mark0_bit hd hin).1 h1, .refl _⟩
  ·
   exact ⟨a, (mark0_bit ha hin).1 hab, had⟩
 ·
  rintro ⟨a, ha, had⟩
  exact .inr ⟨a, hin a ha, ixN_lt (hin a ha), (mark0_bit (hin a ha) hin).2 ha, had⟩
theorem markD_length : ∀ {k : Nat} {S : List Bool}, (markD l k S).length = S.length
 | 0, _ => rfl
 | k + 1, S => by rw [markD, markD_length, upd_length]
theorem markF_length {ids : List Dig} : (markF l ids).length = l.length := by rw [markF, markD_length, mark0_length]
theorem under_ids (h : (readE l).2 = 0) {ids : List Dig} (hin : ∀ p ∈ ids, p ∈ idsL l) {d : Dig} (hu : Under l ids d) : d ∈ idsL l := let ⟨a, ha, had⟩ := hu; had.mem h (hin a ha)
theorem headsD_mem (h : (readE l).2 = 0) {In : List Bool} : ∀ {k : Nat} {U : List Bool} {out : List Dig}, k ≤ l.length → U.length = l.length → ∀ {d : Dig}, (d ∈ headsD l In k U out ↔ d ∈ out ∨ (d ∈ idsL l ∧ ixN l d < k ∧ bitAt In l d = true ∧ ¬ bitAt U l d = true ∧ ∀ e ∈ idsL l, ixN l e < k → (bitAt In l e = true ∨ bitAt U l e = true) → Ab l e d → e = d))
 | 0, U, out, _, _, d => by simp [headsD]
 | k + 1, U, out, hk, hl, d => by
  obtain ⟨n, hn⟩ : ∃ n, l[k]? = some n := ⟨_, List.getElem?_eq_getElem om_⟩
  have hni := mem_ids_at hn
  have hnx := ixN_at h hn
  have bI : In[k]? = some true ↔ bitAt In l n.id = true := by rw [bit_iff, hnx]
  have bU : U[k]? = some true ↔ bitAt U l n.id = true := by rw [bit_iff, hnx]
  have hU : ∀ {x : Dig}, x ∈ idsL l → (bitAt (if In[k]? = some true ∨ U[k]? = some true then setAll l U n.ps else U) l x = true ↔ bitAt U l x = true ∨ ((bitAt In l n.id = true ∨ bitAt U l n.id = true) ∧ x ∈ n.ps)) := by
   intro x hx
   by_cases hc : In[k]? = some true ∨ U[k]? = some true
   ·
    have hc' : bitAt In l n.id = true ∨ bitAt U l n.id = true := hc.imp bI.1 bU.1
    rw [if_pos hc, setAll_bit hl hx (fun p hp => (ix_par h hn hp).1)]
    exact ⟨fun x => x.imp id fun y => ⟨hc', y⟩, fun x => x.imp id fun y => y.2⟩
   ·
    have hc' : ¬ (bitAt In l n.id = true ∨ bitAt U l n.id = true) := fun x => hc (x.imp bI.2 bU.2)
    rw [if_neg hc]
    exact ⟨.inl, fun x => x.elim id fun y => absurd y.1 hc'⟩
  rw [headsD_at hn, headsD_mem h om_ (by split <;> simp [setAll_length, hl])]
  have hO : ∀ {x : Dig}, (x ∈ (if In[k]? = some true ∧ ¬ U[k]? = some true then out ++ [n.id] else out)) ↔ x ∈ out ∨ (x = n.id ∧ bitAt In l n.id = true ∧ ¬ bitAt U l n.id = true) := by
   intro x
   by_cases hc : In[k]? = some true ∧ ¬ U[k]? = some true
   ·
    rw [if_pos hc, List.mem_append, List.mem_singleton]
    exact ⟨fun y => y.imp id fun z => ⟨z, bI.1 hc.1, fun q => hc.2 (bU.2 q)⟩, fun y => y.imp id fun z => z.1⟩
   ·
    rw [if_neg hc]
    exact ⟨.inl, fun y => y.elim id fun z => absurd ⟨bI.2 z.2.1, fun q => z.2.2 (bU.1 q)⟩ hc⟩
  rw [hO]
  constructor
  ·
   rintro ((h1 | ⟨rfl, h2, h3⟩) | ⟨hd, hdk, hdI, hdU, hall⟩)
   ·
    exact .inl h1
   ·
    refine .inr ⟨hni, by omega, h2, h3, fun e he hek _ hab => ?_⟩
    have := hab.ix h he
    exact this.2 om_
   ·
    have hdU' : ¬ (bitAt U l d = true ∨ ((bitAt In l n.id = true ∨ bitAt U l n.id = true) ∧ d ∈ n.ps)) := fun x => hdU ((hU hd).2 x)
    refine .inr ⟨hd, by omega, hdI, fun x => hdU' (.inl x), fun e he hek hc hab => ?_⟩
    by_cases hx : ixN l e < k
    ·
     refine hall e he hx ?_ hab
     rcases hc with hc | hc
     ·
      exact .inl hc
     ·
      exact .inr ((hU he).2 (.inl hc))
    ·
     have e1 : e = n.id := ixN_inj he hni om_
     subst e1
     rcases hab.inv_at h hn with e2 | ⟨p, hp, hpd⟩
     ·
      exact e2
     ·
      exfalso
      have hpi := ix_par h hn hp
      have e3 := hall p hpi.1 hpi.2 (.inr ((hU hpi.1).2 (.inr ⟨hc, hp⟩))) hpd
      subst e3
      exact hdU' (.inr ⟨hc, hp⟩)
  ·
   rintro (h1 | ⟨hd, hdk, hdI, hdU, hall⟩)
   ·
    exact .inl (.inl h1)
   ·
    by_cases hx : ixN l d < k
    ·
     have hne : ¬ d = n.id := fun e => by rw [e, hnx] at hx; omega
     refine .inr ⟨hd, hx, hdI, fun hb => ?_, fun e he hek hc hab => ?_⟩
     ·
      rcases (hU hd).1 hb with hb | ⟨hc, hp⟩
      ·
       exact hdU hb
      ·
       exact hne (hall n.id hni om_ hc (.step (List.mem_of_getElem? hn) hp (.refl _))).symm
     ·
      rcases hc with hc | hc
      ·
       exact hall e he om_ (.inl hc) hab
      ·
       rcases (hU he).1 hc with hc | ⟨hc, hp⟩
       ·
        exact hall e he om_ (.inr hc) hab
       ·
        exact absurd (hall n.id hni om_ hc (.step (List.mem_of_getElem? hn) hp hab)).symm hne
    ·
     have e1 : d = n.id := ixN_inj hd hni om_
     subst e1
     exact .inl (.inr ⟨rfl, hdI, hdU⟩)
theorem headsD_nodup (h : (readE l).2 = 0) {In : List Bool} : ∀ {k : Nat} {U : List Bool} {out : List Dig}, k ≤ l.length → out.Nodup → (∀ x ∈ out, k ≤ ixN l x) → (headsD l In k U out).Nodup
 | 0, U, out, _, hn, _ => by rw [headsD]; exact hn
 | k + 1, U, out, hk, ho, hx => by
  obtain ⟨n, hn⟩ : ∃ n, l[k]? = some n := ⟨_, List.getElem?_eq_getElem om_⟩
  have hnx := ixN_at h hn
  rw [headsD_at hn]
  refine headsD_nodup h om_ ?_ ?_
  ·
   split
   ·
    refine List.nodup_append.2 ⟨ho, by simp, fun a ha b hb => ?_⟩
    simp at hb; subst hb
    intro e; subst e
    have := hx _ ha; omega
   ·
    exact ho
  ·
   intro x hxm
   split at hxm
   ·
    rcases List.mem_append.1 hxm with h1 | h1
    ·
     have := hx x h1; omega
    ·
     simp at h1; subst h1; omega
   ·
    have := hx x hxm; omega
theorem heads_up (h : (readE l).2 = 0) {In : List Bool} : Up (headsL l In) := sortedD_up (headsD_nodup h (Nat.le_refl _) List.nodup_nil (fun x hx => by cases hx))
theorem heads_mem (h : (readE l).2 = 0) {In : List Bool} {d : Dig} : d ∈ headsL l In ↔ d ∈ idsL l ∧ bitAt In l d = true ∧ ∀ e ∈ idsL l, bitAt In l e = true → Ab l e d → e = d := by
 rw [headsL, sortedD_mem, headsD_mem h (Nat.le_refl _) (by simp)]
 simp only [rep_bit, List.not_mem_nil, false_or, or_false, Bool.false_eq_true, not_false_eq_true, true_and]
 constructor
 ·
  rintro ⟨h1, _, h2, h3⟩
  exact ⟨h1, h2, fun e he hb hab => h3 e he (ixN_lt he) hb hab⟩
 ·
  rintro ⟨h1, h2, h3⟩
  exact ⟨h1, ixN_lt h1, h2, fun e he _ hb hab => h3 e he hb hab⟩
structure IsHead (l : List Nd) (X : Dig → Prop) (d : Dig) : Prop where
 mem : X d
 max : ∀ e, X e → Ab l e d → e = d
theorem heads_is (h : (readE l).2 = 0) {In : List Bool} {X : Dig → Prop} (hX : ∀ d, X d → d ∈ idsL l) (hb : ∀ d ∈ idsL l, bitAt In l d = true ↔ X d) {d : Dig} : d ∈ headsL l In ↔ IsHead l X d := by
 rw [heads_mem h]
 constructor
 ·
  rintro ⟨h1, h2, h3⟩
  exact ⟨(hb d h1).1 h2, fun e he hab => h3 e (hX e he) ((hb e (hX e he)).2 he) hab⟩
 ·
  rintro ⟨h1, h2⟩
  have hd := hX d h1
  exact ⟨hd, (hb d hd).2 h1, fun e he hbe hab => h2 e ((hb e he).1 hbe) hab⟩
theorem exists_head (h : (readE l).2 = 0) {X : Dig → Prop} (hX : ∀ d, X d → d ∈ idsL l) : ∀ {k : Nat} {d : Dig}, X d → l.length - ixN l d ≤ k → ∃ e, IsHead l X e ∧ Ab l e d
 | 0, d, hd, hk => by have := ixN_lt (hX d hd); omega
 | k + 1, d, hd, hk => by
  by_cases hm : ∃ e, X e ∧ Ab l e d ∧ e ≠ d
  ·
   obtain ⟨e, he, hed, hne⟩ := hm
   have h1 := hed.ix h (hX e he)
   have h2 := ixN_lt (hX e he)
   have h3 : ixN l d ≠ ixN l e := fun x => hne (h1.2 x)
   obtain ⟨f, hf, hfe⟩ := exists_head h hX (k := k) he om_
   exact ⟨f, hf, hfe.trans hed⟩
  ·
   refine ⟨d, ⟨hd, fun e he hed => ?_⟩, .refl _⟩
   by_cases hne : e = d
   ·
    exact hne
   ·
    exact absurd ⟨e, he, hed, hne⟩ hm
end Go.Pl
/- The plain law of graphs: the order of marked nodes. No condition; no program. -/
namespace Go.Pl
open Go.Fw
variable {l : List Nd}
theorem nodup_le : ∀ {a b : List Dig}, a.Nodup → (∀ x ∈ a, x ∈ b) → a.length ≤ b.length
 | [], _, _, _ => Nat.zero_le _
 | x :: a, b, h, hs => by
  have h' := List.nodup_cons.1 h
  have hx := hs x (by simp)
  have ih := nodup_le (a := a) (b := b.erase x) h'.2 (fun y hy => (List.mem_erase_of_ne (fun (e : y = x) => h'.1 (by rw [← e]; exact hy))).2 (hs y (by simp [hy])))
  rw [List.length_erase_of_mem hx] at ih
  have := List.length_pos_of_mem hx
  simp only [List.length_cons]
  omega
def parD (l : List Nd) (d : Dig) : List Dig := ((l[ixN l d]?).map Nd.ps).getD []
theorem parD_at (h : (readE l).2 = 0) {i : Nat} {n : Nd} (hn : l[i]? = some n) : parD l n.id = n.ps := by
 rw [parD, ixN_at h hn, hn]; rfl
theorem parD_mem (h : (readE l).2 = 0) {n : Nd} (hn : n ∈ l) : parD l n.id = n.ps := by
 obtain ⟨j, hj⟩ := List.mem_iff_getElem?.1 hn
 exact parD_at h hj
def mayQ (l : List Nd) (out : List Dig) (d : Dig) : Bool := !decide (d ∈ out) && (parD l d).all fun p => decide (p ∈ out)
theorem mayQ_iff {out : List Dig} {d : Dig} : mayQ l out d = true ↔ d ∉ out ∧ ∀ p ∈ parD l d, p ∈ out := by
 simp [mayQ]
def nextQ (l : List Nd) (all out : List Dig) : Option Dig := all.find? (mayQ l out)
def orderQ (l : List Nd) (all : List Dig) : Nat → List Dig → List Dig
 | 0, out => out
 | k + 1, out => match nextQ l all out with
  | none => out
  | some d => orderQ l all k (out ++ [d])
theorem orderQ_none {all out : List Dig} (h : nextQ l all out = none) : ∀ k, orderQ l all k out = out
 | 0 => rfl
 | k + 1 => by rw [orderQ, h]
theorem orderQ_some {all out : List Dig} {d : Dig} {k : Nat} (h : nextQ l all out = some d) : orderQ l all (k + 1) out = orderQ l all k (out ++ [d]) := by rw [orderQ, h]
structure Came (l : List Nd) (all out : List Dig) : Prop where
 once : out.Nodup
 isin : ∀ d ∈ out, d ∈ all
 par : ∀ i d, out[i]? = some d → ∀ p ∈ parD l d, p ∈ out.take i
theorem Came.nil {all : List Dig} : Came l all [] := ⟨List.nodup_nil, (fun d h => by cases h), fun i d h => by simp at h⟩
theorem nextQ_some {all out : List Dig} {d : Dig} (h : nextQ l all out = some d) : d ∈ all ∧ d ∉ out ∧ ∀ p ∈ parD l d, p ∈ out :=
 ⟨List.mem_of_find?_eq_some h, mayQ_iff.1 (List.find?_some h)⟩
theorem Came.more {all out : List Dig} {d : Dig} (h : Came l all out) (hd : nextQ l all out = some d) : Came l all (out ++ [d]) := by
 obtain ⟨h1, h2, h3⟩ := nextQ_some hd
 refine ⟨List.nodup_append.2 ⟨h.once, by simp, fun a ha b hb e => ?_⟩, fun x hx => ?_, fun i x hx p hp => ?_⟩
 ·
  simp at hb; subst hb; subst e; exact h2 ha
 ·
  rcases List.mem_append.1 hx with hx | hx
  ·
   exact h.isin x hx
  ·
   simp at hx; subst hx; exact h1
 ·
  by_cases hi : i < out.length
  ·
   rw [List.getElem?_append_left hi] at hx
   rw [List.take_append_of_le_length om_]
   exact h.par i x hx p hp
  ·
   have hi2 : i = out.length := by
    have := (List.getElem?_eq_some_iff.1 hx).1
    simp at this; omega
   subst hi2
   rw [List.getElem?_append_right (Nat.le_refl _)] at hx
   simp at hx; subst hx
   rw [List.take_append_of_le_length (Nat.le_refl _), List.take_length]
   exact h3 p hp
theorem Came.le {all out : List Dig} (h : Came l all out) : out.length ≤ all.length := nodup_le h.once h.isin
theorem next_all (h : (readE l).2 = 0) {all out : List Dig} (hi : ∀ d ∈ all, d ∈ idsL l) (hcl : ∀ d ∈ all, ∀ p ∈ parD l d, p ∈ all) (hn : nextQ l all out = none) : ∀ {k : Nat} {d : Dig}, d ∈ all → ixN l d < k → d ∈ out
 | 0, _, _, hk => by omega
 | k + 1, d, hd, hk => by
  have h1 := List.find?_eq_none.1 hn d hd
  by_cases hm : d ∈ out
  ·
   exact hm
  ·
   exfalso
   apply h1
   refine mayQ_iff.2 ⟨hm, fun p hp => ?_⟩
   obtain ⟨n, hnn, rfl⟩ := at_ixN (hi d hd)
   have hp2 := hp
   rw [parD_at h hnn] at hp2
   have := ix_par h hnn hp2
   exact next_all h hi hcl hn (k := k) (d := p) (hcl _ hd p hp) om_
theorem Came.next (h : (readE l).2 = 0) {all out : List Dig} (hi : ∀ d ∈ all, d ∈ idsL l) (hcl : ∀ d ∈ all, ∀ p ∈ parD l d, p ∈ all) (hu : Up all) (hlt : out.length < all.length) : ∃ d, nextQ l all out = some d := by
 cases hn : nextQ l all out with
 | some d => exact ⟨d, rfl⟩
 | none =>
  exfalso
  have h1 : all.Nodup := hu.imp fun {a b} hab e => by subst e; rw [less_irrefl] at hab; cases hab
  have := nodup_le h1 (fun x hx => next_all h hi hcl hn hx (Nat.lt_succ_self _))
  omega
theorem Came.order (h : (readE l).2 = 0) {all : List Dig} (hi : ∀ d ∈ all, d ∈ idsL l) (hcl : ∀ d ∈ all, ∀ p ∈ parD l d, p ∈ all) : ∀ {k : Nat} {out : List Dig}, Came l all out → Came l all (orderQ l all k out) ∧ (all.length < k + out.length → ∀ d ∈ all, d ∈ orderQ l all k out)
 | 0, out, hc => ⟨hc, fun hk => by have := hc.le; omega⟩
 | k + 1, out, hc => by
  cases hn : nextQ l all out with
  | none =>
   rw [orderQ_none hn]
   exact ⟨hc, fun _ d hd => next_all h hi hcl hn hd (Nat.lt_succ_self _)⟩
  | some d =>
   rw [orderQ_some hn]
   have := Came.order h hi hcl (k := k) (hc.more hn)
   exact ⟨this.1, fun hk => this.2 (by simp; omega)⟩
end Go.Pl
/- slices.DeleteFunc at digests of our own; graph.Order, Lacks, walked. No condition. -/
namespace Go.Fw
open Go.RowKit
theorem Own.cut {w : World} {e : TypeId} {k : Nat} {A : Option Addr} {n c i : Nat} {pre post : List Value} (h : Own w e k (.slice A n c) (pre ++ post)) (hl : pre.length = i * k) (hi : i ≤ n) : Own w e k (.slice A i c) pre := by
 rcases h with ⟨h, hx⟩ | ⟨g, n', c', rest, fz, h, hh, hxl, hnc, hcm, hal, hfz⟩
 ·
  cases h
  obtain ⟨rfl, rfl⟩ := List.append_eq_nil_iff.1 hx
  exact .inl ⟨by rw [show i = 0 by omega], rfl⟩
 ·
  cases h
  exact .inr ⟨g, i, c, post ++ rest, fz, rfl, by rw [← List.append_assoc]; exact hh, hl, by omega, hcm, by rw [← List.append_assoc]; exact hal, hfz⟩
section
variable {P : Program} {n : NN} {fr : Fr} {w : World} {ty : TypeId} {e : TypeId}
theorem St.alloc1 {t : TypeId} {z : Value} (hI : (P.info? t).map (fun i => i.zero) = some (some z)) (hz : z.cells = #[z]) : St P n fr (.alloc t) ty w (fun v w' => ∃ g, v = .pointer (some ⟨g, 0, none⟩) ∧ w.heap.size ≤ g ∧ Blk w' g t [z] ∧ Ext w w') := fun a o' ho hty ha => by
 obtain ⟨i, hi, hp⟩ := Option.map_eq_some_iff.1 hI
 refine ⟨_, w.alloc (.cells [z].toArray t), ?_, w.heap.size, rfl, Nat.le_refl _, Blk.new w t [z], Chg.alloc _⟩
 simp [execOp, ho, Instr.alloc, zeroValue, typeInfo, hi, hp, newVar, newRow, hz]
end
end Go.Fw
namespace Go.Pl
open Go.Fw
abbrev keptD (p : Dig → Bool) (l : List Dig) : List Dig := l.filter fun d => !p d
structure Mid (p : Dig → Bool) (l cur : List Dig) (i j : Nat) : Prop where
 len : cur.length = l.length
 lt : i < j
 le : j ≤ l.length
 front : cur.take i = keptD p (l.take j)
 back : cur.drop j = l.drop j
theorem Mid.at {p : Dig → Bool} {l cur : List Dig} {i j : Nat} (h : Mid p l cur i j) {d : Dig} (hd : l[j]? = some d) : cur[j]? = some d := by
 have h1 : (cur.drop j)[0]? = (l.drop j)[0]? := by rw [h.back]
 rw [List.getElem?_drop, List.getElem?_drop, Nat.add_zero] at h1
 rw [h1, hd]
end Go.Pl
namespace Go.Proofs.YtmehkigmnpjcjaaDoor
open Go.RowKit Go.Fw Go.Pl Go.Sort
end Go.Proofs.YtmehkigmnpjcjaaDoor
/- graph.Order, Lacks, walked. No condition. -/
namespace Go.Pl
open Go.Fw
end Go.Pl
namespace Go.Proofs.YtmehkigmnpjcjaaDoor
open Go.RowKit Go.Fw Go.Pl Go.Sort
end Go.Proofs.YtmehkigmnpjcjaaDoor
/- Several texts as one: Gy, Gz, Ha. -/
/- The reference's marks, Above, both, Heads, Common, Within, walked. No condition. -/
namespace Go.Pl
open Go.Fw
section
variable {p : Nat → Bool} {all : List Dig}
end
end Go.Pl
namespace Go.Proofs.YtmehkigmnpjcjaaDoor
open Go.RowKit Go.Fw Go.Pl Go.Sort
end Go.Proofs.YtmehkigmnpjcjaaDoor
/- The reference's In, both, Heads, Common, Within, walked. No condition. -/
namespace Go.Fw
open Go.RowKit
theorem Sl.cut {α : Type} {w : World} {enc : α → List Value} {k : Nat} {a : Addr} {m c i j : Nat} {xs : List α} (h : Sl w enc k (.slice (some a) m c) xs) (hij : i ≤ j) (hj : j ≤ m) : Sl w enc k (.slice (some (if c = i then a else a.add (i * k))) (j - i) (c - i)) ((xs.drop i).take (j - i)) := by
 obtain ⟨A, m', c', he, hl, hmc, hcm, hx⟩ := h
 cases he
 refine ⟨_, _, _, rfl, by simp; omega, by omega, by omega, fun q x hq => ⟨_, rfl, ?_⟩⟩
 rw [List.getElem?_take] at hq
 split at hq
 ·
  rw [List.getElem?_drop] at hq
  have hlt := (List.getElem?_eq_some_iff.1 hq).1
  obtain ⟨a', ha, hm⟩ := hx _ _ hq
  cases ha
  rw [if_neg om_, add_add, ← Nat.add_mul]
  exact hm
 ·
  cases hq
end Go.Fw
namespace Go.Proofs.YtmehkigmnpjcjaaDoor
open Go.RowKit Go.Fw Go.Pl Go.Sort
end Go.Proofs.YtmehkigmnpjcjaaDoor
/- The reference's Common, Within, Order, Lacks; the law's two, walked. No condition. -/
namespace Go.Pl
open Go.Fw
end Go.Pl
namespace Go.Proofs.YtmehkigmnpjcjaaDoor
open Go.RowKit Go.Fw Go.Pl Go.Sort
end Go.Proofs.YtmehkigmnpjcjaaDoor
/- What must come: of four nodes, two of them side by side: alive, walked. No condition. -/
namespace Go.Fw
open Go.RowKit
section
variable {P : Program} {n : NN} {fr : Fr} {w : World} {ty : TypeId}
end
theorem Blk.own {w : World} {g : Nat} {e : TypeId} {k n : Nat} {cs : List Value} (h : Blk w g e cs) (hl : cs.length = n * k) (hn : n ≤ maxLen) : Own w e k (.slice (some ⟨g, 0, none⟩) n n) cs :=
 .inr ⟨g, n, n, [], (0, 0), rfl, by rw [List.append_nil]; exact h, hl, Nat.le_refl _, hn, by rw [List.append_nil]; exact hl, fun o _ => by simp⟩
end Go.Fw
namespace Go.Pl
open Go.Fw
end Go.Pl
namespace Go.Proofs.YtmehkigmnpjcjaaDoor
open Go.RowKit Go.Fw Go.Pl Go.Sort
end Go.Proofs.YtmehkigmnpjcjaaDoor
/- The plain laws of graphs: lattice, order of lying within, meets. No condition; no program. -/
namespace Go.Pl
open Go.Fw
variable {l : List Nd}
abbrev hdL (l : List Nd) (ids : List Dig) : List Dig := headsL l (mark0 l ids)
section
variable (h : (readE l).2 = 0)
include h
theorem hdL_mem {ids : List Dig} (hin : ∀ d ∈ ids, d ∈ idsL l) {d : Dig} : d ∈ hdL l ids ↔ IsHead l (· ∈ ids) d := heads_is h hin fun d hd => mark0_bit hd hin
theorem hdL_sub {ids : List Dig} (hin : ∀ d ∈ ids, d ∈ idsL l) {d : Dig} (hd : d ∈ hdL l ids) : d ∈ ids := ((hdL_mem h hin).1 hd).mem
theorem under_head {X : Dig → Prop} (hX : ∀ d, X d → d ∈ idsL l) {d : Dig} (hd : X d) : ∃ e, IsHead l X e ∧ Ab l e d := exists_head h hX hd (Nat.le_refl _)
theorem hdL_under {ids : List Dig} (hin : ∀ d ∈ ids, d ∈ idsL l) {d : Dig} (hd : d ∈ ids) : Under l (hdL l ids) d := by
 obtain ⟨e, he, hed⟩ := under_head h hin hd
 exact ⟨e, (hdL_mem h hin).2 he, hed⟩
omit h in
theorem under_trans {a b : List Dig} {d : Dig} (hu : Under l a d) (hx : ∀ d ∈ a, Under l b d) : Under l b d := by
 obtain ⟨e, he, hed⟩ := hu
 obtain ⟨f, hf, hfe⟩ := hx e he
 exact ⟨f, hf, hfe.trans hed⟩
end
end Go.Pl
/- The plain laws of graphs: a list that grows, or is laid in another order. No condition; no program. -/
namespace Go.Pl
open Go.Fw
theorem fwrong_all : ∀ {l : List Nd} {a : List Dig} {i : Nat}, (∀ j n, l[j]? = some n → wrongE (a ++ idsL (l.take j)) n = 0) → (fwrong l a i).2 = 0
 | [], _, _, _ => rfl
 | x :: r, a, i, h => by
  have h0 : wrongE a x = 0 := by simpa using h 0 x rfl
  rw [fwrong, if_pos h0]
  exact fwrong_all fun j n hj => by
   have := h (j + 1) n (by simpa using hj)
   simpa [idsL] using this
theorem readE_all {l : List Nd} (hl : l.length ≤ 200) (h : ∀ j n, l[j]? = some n → wrongE (idsL (l.take j)) n = 0) : (readE l).2 = 0 := by
 rw [readE, if_neg om_]
 exact fwrong_all fun j n hj => by simpa using h j n hj
theorem wrongE_zero {ahead : List Dig} {n : Nd} (h1 : n.ps.length ≤ 8) (h2 : risB n.ps = true) (h3 : n.id ∉ ahead) (h4 : ∀ p ∈ n.ps, p ∈ ahead) : wrongE ahead n = 0 := by
 rw [wrongE, if_neg om_, if_neg (by rw [h2]; decide), if_neg h3, if_neg]
 rintro ⟨p, hp, hn⟩
 exact hn (h4 p hp)
structure Grow (l m : List Nd) : Prop where
 okl : (readE l).2 = 0
 okm : (readE m).2 = 0
 sub : ∀ d ∈ idsL l, d ∈ idsL m
 par : ∀ d ∈ idsL l, parD m d = parD l d
section
variable {l m : List Nd} (g : Grow l m)
include g
theorem Grow.up {a d : Dig} (h : Ab l a d) : a ∈ idsL l → Ab m a d := by
 induction h with
 | refl d => exact fun _ => .refl _
 | @step n p d hn hp _ ih =>
  intro ha
  have hpi : p ∈ idsL l := by
   obtain ⟨j, hj⟩ := List.mem_iff_getElem?.1 hn
   exact (ix_par g.okl hj hp).1
  obtain ⟨n', hn', e⟩ := List.mem_map.1 (g.sub _ ha)
  have e2 : n'.ps = n.ps := by rw [← parD_mem g.okm hn', e, g.par _ ha, parD_mem g.okl hn]
  rw [← e]
  exact .step hn' (by rw [e2]; exact hp) (ih hpi)
theorem Grow.down {a d : Dig} (h : Ab m a d) : a ∈ idsL l → Ab l a d := by
 induction h with
 | refl d => exact fun _ => .refl _
 | @step n p d hn hp _ ih =>
  intro ha
  obtain ⟨n', hn', e⟩ := List.mem_map.1 ha
  have e2 : n'.ps = n.ps := by rw [← parD_mem g.okl hn', e, ← g.par _ ha, parD_mem g.okm hn]
  have hp' : p ∈ n'.ps := by rw [e2]; exact hp
  have hpi : p ∈ idsL l := by
   obtain ⟨j, hj⟩ := List.mem_iff_getElem?.1 hn'
   exact (ix_par g.okl hj hp').1
  rw [← e]
  exact .step hn' hp' (ih hpi)
theorem Grow.ab {a d : Dig} (ha : a ∈ idsL l) : Ab m a d ↔ Ab l a d := ⟨fun h => g.down h ha, fun h => g.up h ha⟩
theorem Grow.under {ids : List Dig} (hin : ∀ d ∈ ids, d ∈ idsL l) {d : Dig} : Under m ids d ↔ Under l ids d := by
 constructor
 ·
  rintro ⟨a, ha, h⟩; exact ⟨a, ha, (g.ab (hin a ha)).1 h⟩
 ·
  rintro ⟨a, ha, h⟩; exact ⟨a, ha, (g.ab (hin a ha)).2 h⟩
theorem Grow.head {X Y : Dig → Prop} (hX : ∀ d, X d → d ∈ idsL l) (hXY : ∀ d, X d ↔ Y d) {d : Dig} : IsHead m X d ↔ IsHead l Y d := by
 constructor
 ·
  rintro ⟨h1, h2⟩
  exact ⟨(hXY d).1 h1, fun e he hed => h2 e ((hXY e).2 he) (g.up hed (hX e ((hXY e).2 he)))⟩
 ·
  rintro ⟨h1, h2⟩
  exact ⟨(hXY d).2 h1, fun e he hed => h2 e ((hXY e).1 he) (g.down hed (hX e he))⟩
theorem Grow.may {out : List Dig} {d : Dig} (hd : d ∈ idsL l) : mayQ m out d = mayQ l out d := by rw [mayQ, mayQ, g.par d hd]
end
section
variable {l m : List Nd} (g : Grow l m)
include g
end
theorem more_grow {l : List Nd} {n : Nd} (h : (readE (l ++ [n])).2 = 0) : Grow l (l ++ [n]) := by
 have hl := ok_len h
 rw [List.length_append, List.length_singleton] at hl
 have okl : (readE l).2 = 0 := readE_all om_ fun j x hj => by
  have hlt := (List.getElem?_eq_some_iff.1 hj).1
  have := ok_at h (i := j) (n := x) (by rw [List.getElem?_append_left hlt]; exact hj)
  rwa [List.take_append_of_le_length om_] at this
 refine ⟨okl, h, fun d hd => ?_, fun d hd => ?_⟩
 ·
  obtain ⟨x, hx, e⟩ := List.mem_map.1 hd
  exact e ▸ List.mem_map.2 ⟨x, List.mem_append_left _ hx, rfl⟩
 ·
  obtain ⟨x, hx, e⟩ := List.mem_map.1 hd
  rw [← e, parD_mem h (List.mem_append_left _ hx), parD_mem okl hx]
end Go.Pl
