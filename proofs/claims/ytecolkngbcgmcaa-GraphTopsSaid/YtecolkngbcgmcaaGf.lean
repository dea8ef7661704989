/- A look at a graph gone over: reach and its closure, walked: what the iterator promises. No condition. -/
import Derived.Test.YtecolkngbcgmcaaGe
set_option linter.unusedSimpArgs false
set_option linter.unusedVariables false
namespace Go.Proofs.Ytecolkngbcgmcaa
open Go.RowKit Go.Fw Go.Pl
abbrev TPk : TypeId := 55
abbrev TSd : TypeId := 23
abbrev rKeep (wb : World) (gk r sb b1 b2 : Nat) (_ : Unit) (_ k : Nat) : Prop := k < wb.heap.size ∨ k = gk ∨ k = r ∨ k = sb ∨ k = b1 ∨ k = b2

theorem greach_any (p : Addr) (A : Option Addr) (m c : Nat) (w : World) : Calls Try.prog 48 #[.pointer (some p), .slice A m c] w (Ret fun v w' => ∃ b1 b2, v = .func (.func 56) #[] #[.pointer (some ⟨b1, 0, none⟩), .pointer (some ⟨b2, 0, none⟩)] ∧ w.heap.size ≤ b1 ∧ w.heap.size ≤ b2 ∧ Blk w' b1 TPk [.pointer (some p)] ∧ Blk w' b2 TSd [.slice A m c] ∧ Ext w w') := by
  refine calls_of_CW 6 [4] [(0, .pointer (some p)), (1, .slice A m c)] Try.func48 rfl rfl rfl (by simp) args2 ?_
  have hE : Ext w w := Chg.refl
  refine CW.seq fun K1 hK1 => ?_
  refine CW.region ?_   -- region 0
  refine WL.box rfl rfl (by decide) fun g2 w1 hx1 hg2 hB2 => ?_   -- t2 := box 55 t0
  have hlt2 := hB2.lt; have hz1 := hx1.size
  have hM2 := hB2.mem; have hz1 := hx1.size; have hE := hE.thenExt hx1
  refine WL.box rfl rfl (by decide) fun g3 w2 hx2 hg3 hB3 => ?_   -- t3 := box 23 t1
  have hlt3 := hB3.lt; have hz2 := hx2.size
  have hM3 := hB3.mem; have hz2 := hx2.size; have hE := hE.thenExt hx2; have hB2 := hB2.ext hx2
  refine WL.val (Y.assign rfl) (by decide) ?_   -- t4 := assign c(Value.nilFunc)
  refine WL.nil ?_
  refine hK1 _ _ ?_; try clear hK1 K1
  refine CW.seq fun K2 hK2 => ?_
  refine CW.region ?_   -- region 1
  refine WL.val (Y.makeFunc rfl) (by decide) ?_   -- t5 := makeFunc ['Go.Fn.func', '56'] [] [t2, t3]
  refine WL.val (Y.assign rfl) (by decide) ?_   -- t4 := assign t5
  refine WL.nil ?_
  refine hK2 _ _ ?_; try clear hK2 K2
  refine CW.ret ⟨_, rfl, ?_⟩
  exact ⟨g2, g3, rfl, hg2, by omega, hB2, hB3, hE⟩
set_option maxRecDepth 100000 in
set_option maxHeartbeats 2000000 in
theorem greach1_any (wb w_ : World) (gk r sb b1 b2 : Nat) (u v0 : Value) (l : List NdV) (ids : List Dig) (S0 : List Bool) (hK_ : LookAt wb w_ gk r sb u l S0) (hd : Sl wb digC 32 v0 ids) (hin : ∀ d ∈ ids, d ∈ idsL (ndsL l)) (h1_ : Blk w_ b1 TPk [.pointer (some ⟨gk, 0, none⟩)]) (h2_ : Blk w_ b2 TSd [v0]) (hb : wb.heap.size ≤ b1 ∧ wb.heap.size ≤ b2 ∧ b1 ≠ sb ∧ b2 ≠ sb) : IterC Try.prog 56 [.pointer (some ⟨b1, 0, none⟩), .pointer (some ⟨b2, 0, none⟩)] w_ (fun _ (_ : Unit) _ => True) (fun _ => reachL (ndsL l) ids) (fun i => [.int .i64 (i : Int)]) (fun k => k = sb) (rKeep wb gk r sb b1 b2) (fun _ _ _ => True) (fun V => ∃ S, LookAt wb V gk r sb u l S) := by
  obtain ⟨A1, m1, c1, rfl, hdm, hdc, hdx, hdg⟩ := hd
  unfold maxLen at hdx
  intro ln w J Jx hx0 hS hJ hJx hR
  have hK := hK_.ext hx0
  have hB1 := h1_.ext hx0
  have hB2 := h2_.ext hx0
  have hnew := hK.new
  have hne := hK.ne
  have hln := ok_len hK.ok
  have hnl : (ndsL l).length = l.length := by simp
  obtain ⟨A, c, rfl, hmc, hcm⟩ := hK.nds.sl.lens
  unfold maxLen at hcm
  refine calls_of_CW 78 [] [(0, .func (.yield ln) #[] #[]), (1, .pointer (some ⟨b1, 0, none⟩)), (2, .pointer (some ⟨b2, 0, none⟩))] Try.func56 rfl rfl rfl (by simp) args3 ?_
  have hE : Chg (fun k => k = sb) w w := Chg.refl
  refine CW.seq fun K1 hK1 => ?_
  refine CW.region ?_   -- region 0
  refine WL.val (Y.load1 Try.underlying55 rfl hB1.mem.cell0 rfl) (by decide) ?_   -- t9 := load 55 t1
  refine WL.val (Y.nilCheck rfl) (by decide) ?_   -- t10 := nilCheck t9
  refine WL.val (Y.fieldAddr fo_graphlook2 rfl) (by decide) ?_   -- t11 := fieldAddr 61 t10 2
  refine WL.val (Y.load1 Try.underlying58 rfl hK.blk.mem.graphlook2 rfl) (by decide) ?_   -- t12 := load 58 t11
  refine WL.su (Su.clearB Try.underlying58 zero_bool rfl hK.seen hK.len) fun w1 hR1 => ?_   -- _ := call clear(t12) : 58
  obtain ⟨hBs, hc1⟩ := hR1
  have hz1 := hc1.size
  have hE := hE.stepO hc1 (fun k h => .inl h)
  have hK := hK.see hc1 hBs (by simp)
  have hB1 := hB1.chg hc1 (fun h => by omega)
  have hB2 := hB2.chg hc1 (fun h => by omega)
  refine WL.nil ?_
  refine hK1 _ _ ?_; try clear hK1 K1
  refine CW.seq fun K2 hK2 => ?_
  refine CW.seq fun K3 hK3 => ?_
  refine CW.region ?_   -- region 1
  refine WL.val (Y.load1 Try.underlying23 rfl hB2.mem.cell0 rfl) (by decide) ?_   -- t13 := load 23 t2
  refine WL.val (Y.len_slice Try.underlying23 rfl) (by decide) ?_   -- t14 := call len(t13) : 23
  refine WL.val (Y.move rfl) (by decide) ?_   -- t15 := move c(0:i64)
  refine WL.nil ?_
  refine hK3 _ _ ?_; try clear hK3 K3
  refine CW.block ?_   -- block 0
  refine CW.loop (X := Nat) (fun x => [(0, .func (.yield ln) #[] #[]), (1, .pointer (some ⟨b1, 0, none⟩)), (2, .pointer (some ⟨b2, 0, none⟩)), (13, .slice A1 m1 c1), (14, .int .i64 (m1 : Int)), (15, .int .i64 (x : Int))]) (fun x w0 => x ≤ m1 ∧ LookAt wb w0 gk r sb (.slice A l.length c) l (setAll (ndsL l) (List.replicate l.length false) (ids.take x)) ∧ Chg (fun k => k = sb) w w0 ∧ Blk w0 b1 TPk [.pointer (some ⟨gk, 0, none⟩)] ∧ Blk w0 b2 TSd [.slice A1 m1 c1] ∧ w.heap.size ≤ w0.heap.size) (fun x => m1 - x) 0 (by repeat (first | exact Fr.le.nil | refine Fr.le.cons rfl ?_)) ⟨Nat.zero_le _, by simpa [setAll] using hK, hE, hB1, hB2, by omega⟩ ?_
  intro x w2 hl2
  obtain ⟨hxm, hK, hE, hB1, hB2, hz2⟩ := hl2
  have hltK := hK.lt
  refine CW.seq fun K4 hK4 => ?_
  refine CW.region ?_   -- region 2
  refine WL.val (Y.lss rfl rfl) (by decide) ?_   -- t16 := binOp lss 3 t15 t14 3
  refine WL.nil ?_
  refine hK4 _ _ ?_; try clear hK4 K4
  refine CW.seq fun K5 hK5 => ?_
  first | refine CW.condD rfl (fun ht6 => ?_) (fun ht6 => ?_) | refine CW.condND rfl (fun ht6 => ?_) (fun ht6 => ?_) | refine CW.condN rfl (fun ht6 => ?_) (fun ht6 => ?_) | refine CW.cond rfl (fun ht6 => ?_) (fun ht6 => ?_)
  · -- then
    refine CW.skip ?_
    refine hK5 _ _ ?_; try clear hK5 K5
    refine CW.seq fun K7 hK7 => ?_
    refine CW.block ?_   -- block 1
    refine CW.seq fun K8 hK8 => ?_
    obtain ⟨d, hd⟩ : ∃ d, ids[x]? = some d := ⟨_, List.getElem?_eq_getElem (by omega)⟩
    obtain ⟨a, rfl, hma⟩ := hdg _ _ hd
    have hdi := hin d (List.mem_of_getElem? hd)
    have hix := ixN_lt hdi
    rw [hnl] at hix
    obtain ⟨jf, hf⟩ := placed_ix hdi
    have hlS := hK.len
    obtain ⟨cb, hcb⟩ : ∃ cb, (setAll (ndsL l) (List.replicate l.length false) (ids.take x))[ixN (ndsL l) d]? = some cb := ⟨_, List.getElem?_eq_getElem (by omega)⟩
    refine CW.region ?_   -- region 3
    refine WL.val (Y.indexAddrN Try.underlying23 rfl rfl sz0_apiDigest (by omega)) (by decide) ?_   -- t17 := indexAddr 23 t13 t15
    refine WL.val (Y.load Try.underlying45 rfl (hma.ext hK.old) (sz_apiDigest _) rfl) (by decide) ?_   -- t18 := load 45 t17
    refine as_apiDigest rfl (by simp) (by decide) fun g5 w3 hx3 hg5 hB5 => ?_   -- alloc 45; store 45 t5 t18
    have hlt5 := hB5.lt; have hz3 := hx3.size
    have hM5 := hB5.mem; have hz3 := hx3.size; have hE := hE.thenExt hx3; have hK := hK.ext hx3; have hB1 := hB1.ext hx3; have hB2 := hB2.ext hx3
    refine WL.nil ?_
    refine hK8 _ _ ?_; try clear hK8 K8
    refine CW.head 11 (by kernel_rfl) (by kernel_rfl) fun w4 hx4 => ?_   -- region 4
    skip; have hz4 := hx4.size; have hE := hE.thenExt hx4; have hK := hK.ext hx4; have hB1 := hB1.ext hx4; have hB2 := hB2.ext hx4; have hB5 := hB5.ext hx4
    refine HL.val (Y.load1 Try.underlying55 rfl hB1.mem.cell0 rfl) (by decide) ?_   -- t19 := load 55 t1
    refine HL.val (Y.nilCheck rfl) (by decide) ?_   -- t20 := nilCheck t19
    refine HL.val (Y.fieldAddr fo_graphlook2 rfl) (by decide) ?_   -- t21 := fieldAddr 61 t20 2
    refine HL.val (Y.load1 Try.underlying58 rfl hK.blk.mem.graphlook2 rfl) (by decide) ?_   -- t22 := load 58 t21
    refine HL.val (Y.load1 Try.underlying55 rfl hB1.mem.cell0 rfl) (by decide) ?_   -- t23 := load 55 t1
    refine HL.val (Y.nilCheck rfl) (by decide) ?_   -- t24 := nilCheck t23
    refine HL.val (Y.fieldAddr fo_graphlook1 rfl) (by decide) ?_   -- t25 := fieldAddr 61 t24 1
    refine HL.val (Y.load1 Try.underlying59 rfl hK.blk.mem.graphlook1 rfl) (by decide) ?_   -- t26 := load 59 t25
    refine HL.val (Y.load Try.underlying45 rfl hB5.mem (sz_apiDigest _) rfl) (by decide) ?_   -- t27 := load 45 t5
    refine HL.val (Y.lookupAt keyDig (fun _ => rfl) Try.underlying59 rfl rfl hK.map hf rfl) (by decide) ?_   -- t28 := lookup 59 t26 t27 false
    refine HL.val (Y.indexAddrN Try.underlying58 rfl rfl sz0_bool (by omega)) (by decide) ?_   -- t29 := indexAddr 58 t22 t28
    refine HL.nil ?_
    refine WL.storeB rfl rfl rfl sz_bool hK.seen hcb (fun w5 hc5 hB5_ => ?_)   -- _ := store 4 t29 c(true)
    have hz5 := hc5.size; have hE := hE.stepO hc5 (fun k h => (by show (k = sb) ∨ _; omega)); have hK := hK.see hc5 hB5_ (by rw [List.length_set]; exact hlS); have hB1 := hB1.chg hc5 (fun h => by omega); have hB2 := hB2.chg hc5 (fun h => by omega); have hB5 := hB5.chg hc5 (fun h => by omega)
    skip
    refine WL.nil ?_
    refine hK7 _ _ ?_; try clear hK7 K7
    refine CW.region ?_   -- region 5
    refine WL.val (Y.add rfl rfl ⟨by omega, by omega⟩) (by decide) ?_   -- t30 := binOp add 3 t15 c(1:i64) 3
    refine WL.val (Y.move rfl) (by decide) ?_   -- t15 := move t30
    refine WL.nil ?_
    refine ⟨x + 1, by show m1 - (x + 1) < m1 - x; omega, (by repeat (first | exact Fr.le.nil | refine Fr.le.cons rfl ?_)), by show x + 1 ≤ m1; omega, ?_, hE, hB1, hB2, by omega⟩
    show LookAt _ _ _ _ _ _ _ (setAll _ _ (ids.take (x + 1)))
    rw [take_succ hd, setAll_app]
    exact hK
  -- else
  refine CW.exit ?_   -- exit 0
  refine hK2 _ _ ?_; try clear hK2 K2
  refine CW.seq fun K9 hK9 => ?_
  refine CW.region ?_   -- region 6
  refine WL.val (Y.load1 Try.underlying55 rfl hB1.mem.cell0 rfl) (by decide) ?_   -- t31 := load 55 t1
  refine WL.val (Y.nilCheck rfl) (by decide) ?_   -- t32 := nilCheck t31
  refine WL.val (Y.fieldAddr fo_graphlook0 rfl) (by decide) ?_   -- t33 := fieldAddr 61 t32 0
  refine WL.val (Y.load1 Try.underlying22 rfl hK.blk.mem.graphlook0 rfl) (by decide) ?_   -- t34 := load 22 t33
  refine WL.val (Y.len_slice Try.underlying22 rfl) (by decide) ?_   -- t35 := call len(t34) : 22
  refine WL.val (Y.sub rfl rfl ⟨by omega, by omega⟩) (by decide) ?_   -- t36 := binOp sub 3 t35 c(1:i64) 3
  refine WL.val (Y.assign rfl) (by decide) ?_   -- t6 := assign t36
  refine WL.nil ?_
  refine hK9 _ _ ?_; try clear hK9 K9
  refine CW.block ?_   -- block 2
  refine CW.loop (X := Nat × Nat × List Bool) (fun x => [(0, .func (.yield ln) #[] #[]), (1, .pointer (some ⟨b1, 0, none⟩)), (2, .pointer (some ⟨b2, 0, none⟩)), (6, .int .i64 ((x.1 : Int) - 1))]) (fun x w0 => x.1 ≤ l.length ∧ LookAt wb w0 gk r sb (.slice A l.length c) l x.2.2 ∧ x.2.1 ≤ (reachL (ndsL l) ids).length ∧ (reachL (ndsL l) ids).drop x.2.1 = reachD (ndsL l) x.1 x.2.2 ∧ J () x.2.1 w0 ∧ Blk w0 b1 TPk [.pointer (some ⟨gk, 0, none⟩)] ∧ Blk w0 b2 TSd [.slice A1 m1 c1]) (fun x => x.1) (l.length, 0, mark0 (ndsL l) ids) (by repeat (first | exact Fr.le.nil | refine Fr.le.cons rfl ?_)) ⟨Nat.le_refl _, by rw [mark0, hnl]; rw [List.take_of_length_le (by omega)] at hK; exact hK, Nat.zero_le _, by rw [reachL, hnl, List.drop_zero], hS () _ hE trivial, hB1, hB2⟩ ?_
  intro x w6 hl6
  clear hE hK hB1 hB2
  obtain ⟨k, j, S⟩ := x
  dsimp only at hl6 ⊢
  obtain ⟨hkl, hK, hjl, hdrop, hj, hB1, hB2⟩ := hl6
  have hE : Chg (fun k => k = sb) w6 w6 := Chg.refl
  refine CW.seq fun K10 hK10 => ?_
  refine CW.seq fun K11 hK11 => ?_
  refine CW.region ?_   -- region 7
  refine WL.val (Y.move rfl) (by decide) ?_   -- t37 := move t6
  refine WL.val (Y.geq rfl rfl) (by decide) ?_   -- t38 := binOp geq 3 t37 c(0:i64) 3
  refine WL.nil ?_
  refine hK11 _ _ ?_; try clear hK11 K11
  first | refine CW.condD rfl (fun ht12 => ?_) (fun ht12 => ?_) | refine CW.condND rfl (fun ht12 => ?_) (fun ht12 => ?_) | refine CW.condN rfl (fun ht12 => ?_) (fun ht12 => ?_) | refine CW.cond rfl (fun ht12 => ?_) (fun ht12 => ?_)
  · -- then
    refine CW.skip ?_
    refine hK10 _ _ ?_; try clear hK10 K10
    obtain ⟨i, rfl⟩ : ∃ i, k = i + 1 := ⟨k - 1, by omega⟩
    rw [show (((i + 1 : Nat) : Int) - 1) = (i : Int) by omega]
    obtain ⟨y, hy⟩ : ∃ y, l[i]? = some y := ⟨_, List.getElem?_eq_getElem (by omega)⟩
    obtain ⟨⟨id, ps⟩, Ay, cy⟩ := y
    have hyn : (ndsL l)[i]? = some ⟨id, ps⟩ := by simp [hy]
    have hlS := hK.len
    obtain ⟨cb, hcb⟩ : ∃ cb, S[i]? = some cb := ⟨_, List.getElem?_eq_getElem (by omega)⟩
    obtain ⟨a, rfl, hma⟩ := hK.nds.sl.at hy
    have hps0 := hK.nds.ps _ (List.mem_of_getElem? hy)
    dsimp only [NdV.pv] at hps0
    have hps1 := hps0
    obtain ⟨_, _, _, he_, _, hcy, hcy2, _⟩ := hps1
    cases he_
    unfold maxLen at hcy2
    refine CW.seq_to (X := Nat × List Bool) (fun u => [(0, .func (.yield ln) #[] #[]), (1, .pointer (some ⟨b1, 0, none⟩)), (2, .pointer (some ⟨b2, 0, none⟩)), (6, .int .i64 (i : Int))]) (fun u w0 => LookAt wb w0 gk r sb (.slice (some a) l.length c) l u.2 ∧ u.1 ≤ (reachL (ndsL l) ids).length ∧ (reachL (ndsL l) ids).drop u.1 = reachD (ndsL l) i u.2 ∧ J () u.1 w0 ∧ Blk w0 b1 TPk [.pointer (some ⟨gk, 0, none⟩)] ∧ Blk w0 b2 TSd [.slice A1 m1 c1]) ?_ ?_
    · skip
      refine CW.block ?_   -- block 3
      refine CW.seq fun K14 hK14 => ?_
      refine CW.seq fun K15 hK15 => ?_
      refine CW.region ?_   -- region 9
      refine WL.val (Y.load1 Try.underlying55 rfl hB1.mem.cell0 rfl) (by decide) ?_   -- t41 := load 55 t1
      refine WL.val (Y.nilCheck rfl) (by decide) ?_   -- t42 := nilCheck t41
      refine WL.val (Y.fieldAddr fo_graphlook2 rfl) (by decide) ?_   -- t43 := fieldAddr 61 t42 2
      refine WL.val (Y.load1 Try.underlying58 rfl hK.blk.mem.graphlook2 rfl) (by decide) ?_   -- t44 := load 58 t43
      refine WL.val (Y.move rfl) (by decide) ?_   -- t45 := move t6
      refine WL.val (Y.indexAddrN Try.underlying58 rfl rfl sz0_bool (by omega)) (by decide) ?_   -- t46 := indexAddr 58 t44 t45
      refine WL.val (Y.load1 Try.underlying4 rfl (hK.seen.bcell hcb) rfl) (by decide) ?_   -- t47 := load 4 t46
      refine WL.val (Y.not rfl) (by decide) ?_   -- t48 := unOp not 4 t47
      refine WL.nil ?_
      refine hK15 _ _ ?_; try clear hK15 K15
      first | refine CW.condD rfl (fun ht16 => ?_) (fun ht16 => ?_) | refine CW.condND rfl (fun ht16 => ?_) (fun ht16 => ?_) | refine CW.condN rfl (fun ht16 => ?_) (fun ht16 => ?_) | refine CW.cond rfl (fun ht16 => ?_) (fun ht16 => ?_)
      · -- then
        refine CW.exit ?_   -- exit 3
        refine ⟨(j, S), (by repeat (first | exact Fr.le.nil | refine Fr.le.cons rfl ?_)), hK, hjl, ?_, hj, hB1, hB2⟩
        rw [hdrop, reachD, if_neg (fun h => by rw [hcb] at h; simp_all)]
      -- else
      refine CW.skip ?_
      refine hK14 _ _ ?_; try clear hK14 K14
      refine CW.seq fun K17 hK17 => ?_
      refine CW.seq fun K18 hK18 => ?_
      refine CW.region ?_   -- region 10
      refine WL.val (Y.load1 Try.underlying55 rfl hB1.mem.cell0 rfl) (by decide) ?_   -- t49 := load 55 t1
      refine WL.val (Y.nilCheck rfl) (by decide) ?_   -- t50 := nilCheck t49
      refine WL.val (Y.fieldAddr fo_graphlook0 rfl) (by decide) ?_   -- t51 := fieldAddr 61 t50 0
      refine WL.val (Y.load1 Try.underlying22 rfl hK.blk.mem.graphlook0 rfl) (by decide) ?_   -- t52 := load 22 t51
      refine WL.val (Y.move rfl) (by decide) ?_   -- t53 := move t6
      refine WL.val (Y.indexAddrN Try.underlying22 rfl rfl sz0_apiNode (by omega)) (by decide) ?_   -- t54 := indexAddr 22 t52 t53
      refine WL.val (Y.fieldAddr fo_apiNode1 rfl) (by decide) ?_   -- t55 := fieldAddr 48 t54 1
      refine WL.val (Y.load1 Try.underlying23 rfl (hma.ext hK.old).node1 rfl) (by decide) ?_   -- t56 := load 23 t55
      refine WL.val (Y.len_slice Try.underlying23 rfl) (by decide) ?_   -- t57 := call len(t56) : 23
      refine WL.val (Y.move rfl) (by decide) ?_   -- t58 := move c(0:i64)
      refine WL.nil ?_
      refine hK18 _ _ ?_; try clear hK18 K18
      refine CW.block ?_   -- block 4
      refine CW.loop (X := Nat) (fun x => [(0, .func (.yield ln) #[] #[]), (1, .pointer (some ⟨b1, 0, none⟩)), (2, .pointer (some ⟨b2, 0, none⟩)), (6, .int .i64 (i : Int)), (56, .slice Ay ps.length cy), (57, .int .i64 (ps.length : Int)), (58, .int .i64 (x : Int))]) (fun x w0 => x ≤ ps.length ∧ LookAt wb w0 gk r sb (.slice (some a) l.length c) l (setAll (ndsL l) S (ps.take x)) ∧ Chg (fun k => k = sb) w6 w0 ∧ Blk w0 b1 TPk [.pointer (some ⟨gk, 0, none⟩)] ∧ Blk w0 b2 TSd [.slice A1 m1 c1] ∧ w6.heap.size ≤ w0.heap.size) (fun x => ps.length - x) 0 (by repeat (first | exact Fr.le.nil | refine Fr.le.cons rfl ?_)) ⟨Nat.zero_le _, by simpa [setAll] using hK, hE, hB1, hB2, Nat.le_refl _⟩ ?_
      intro x w7 hl7
      obtain ⟨hxp, hK, hE, hB1, hB2, hz7⟩ := hl7
      have hltK := hK.lt
      refine CW.seq fun K19 hK19 => ?_
      refine CW.region ?_   -- region 11
      refine WL.val (Y.lss rfl rfl) (by decide) ?_   -- t59 := binOp lss 3 t58 t57 3
      refine WL.nil ?_
      refine hK19 _ _ ?_; try clear hK19 K19
      refine CW.seq fun K20 hK20 => ?_
      first | refine CW.condD rfl (fun ht21 => ?_) (fun ht21 => ?_) | refine CW.condND rfl (fun ht21 => ?_) (fun ht21 => ?_) | refine CW.condN rfl (fun ht21 => ?_) (fun ht21 => ?_) | refine CW.cond rfl (fun ht21 => ?_) (fun ht21 => ?_)
      · -- then
        refine CW.skip ?_
        refine hK20 _ _ ?_; try clear hK20 K20
        refine CW.seq fun K22 hK22 => ?_
        refine CW.block ?_   -- block 5
        refine CW.seq fun K23 hK23 => ?_
        obtain ⟨d, hd⟩ : ∃ d, ps[x]? = some d := ⟨_, List.getElem?_eq_getElem (by omega)⟩
        obtain ⟨a2, rfl, hma2⟩ := hps0.at hd
        have hdi := mem_idsTake (ok_par hK.ok hyn (List.mem_of_getElem? hd))
        have hix := ixN_lt hdi
        rw [hnl] at hix
        obtain ⟨jf, hf⟩ := placed_ix hdi
        have hlS := hK.len
        obtain ⟨cb2, hcb2⟩ : ∃ cb, (setAll (ndsL l) S (ps.take x))[ixN (ndsL l) d]? = some cb := ⟨_, List.getElem?_eq_getElem (by omega)⟩
        refine CW.region ?_   -- region 12
        refine WL.val (Y.indexAddrN Try.underlying23 rfl rfl sz0_apiDigest (by omega)) (by decide) ?_   -- t60 := indexAddr 23 t56 t58
        refine WL.val (Y.load Try.underlying45 rfl (hma2.ext hK.old) (sz_apiDigest _) rfl) (by decide) ?_   -- t61 := load 45 t60
        refine as_apiDigest rfl (by simp) (by decide) fun g8 w8 hx8 hg8 hB8 => ?_   -- alloc 45; store 45 t8 t61
        have hlt8 := hB8.lt; have hz8 := hx8.size
        have hM8 := hB8.mem; have hz8 := hx8.size; have hE := hE.thenExt hx8; have hK := hK.ext hx8; have hB1 := hB1.ext hx8; have hB2 := hB2.ext hx8
        refine WL.nil ?_
        refine hK23 _ _ ?_; try clear hK23 K23
        refine CW.head 11 (by kernel_rfl) (by kernel_rfl) fun w9 hx9 => ?_   -- region 13
        skip; have hz9 := hx9.size; have hE := hE.thenExt hx9; have hK := hK.ext hx9; have hB1 := hB1.ext hx9; have hB2 := hB2.ext hx9; have hB8 := hB8.ext hx9
        refine HL.val (Y.load1 Try.underlying55 rfl hB1.mem.cell0 rfl) (by decide) ?_   -- t62 := load 55 t1
        refine HL.val (Y.nilCheck rfl) (by decide) ?_   -- t63 := nilCheck t62
        refine HL.val (Y.fieldAddr fo_graphlook2 rfl) (by decide) ?_   -- t64 := fieldAddr 61 t63 2
        refine HL.val (Y.load1 Try.underlying58 rfl hK.blk.mem.graphlook2 rfl) (by decide) ?_   -- t65 := load 58 t64
        refine HL.val (Y.load1 Try.underlying55 rfl hB1.mem.cell0 rfl) (by decide) ?_   -- t66 := load 55 t1
        refine HL.val (Y.nilCheck rfl) (by decide) ?_   -- t67 := nilCheck t66
        refine HL.val (Y.fieldAddr fo_graphlook1 rfl) (by decide) ?_   -- t68 := fieldAddr 61 t67 1
        refine HL.val (Y.load1 Try.underlying59 rfl hK.blk.mem.graphlook1 rfl) (by decide) ?_   -- t69 := load 59 t68
        refine HL.val (Y.load Try.underlying45 rfl hB8.mem (sz_apiDigest _) rfl) (by decide) ?_   -- t70 := load 45 t8
        refine HL.val (Y.lookupAt keyDig (fun _ => rfl) Try.underlying59 rfl rfl hK.map hf rfl) (by decide) ?_   -- t71 := lookup 59 t69 t70 false
        refine HL.val (Y.indexAddrN Try.underlying58 rfl rfl sz0_bool (by omega)) (by decide) ?_   -- t72 := indexAddr 58 t65 t71
        refine HL.nil ?_
        refine WL.storeB rfl rfl rfl sz_bool hK.seen hcb2 (fun w10 hc10 hB10_ => ?_)   -- _ := store 4 t72 c(true)
        have hz10 := hc10.size; have hE := hE.stepO hc10 (fun k h => (by show (k = sb) ∨ _; omega)); have hK := hK.see hc10 hB10_ (by rw [List.length_set]; exact hlS); have hB1 := hB1.chg hc10 (fun h => by omega); have hB2 := hB2.chg hc10 (fun h => by omega); have hB8 := hB8.chg hc10 (fun h => by omega)
        skip
        refine WL.nil ?_
        refine hK22 _ _ ?_; try clear hK22 K22
        refine CW.region ?_   -- region 14
        refine WL.val (Y.add rfl rfl ⟨by omega, by omega⟩) (by decide) ?_   -- t73 := binOp add 3 t58 c(1:i64) 3
        refine WL.val (Y.move rfl) (by decide) ?_   -- t58 := move t73
        refine WL.nil ?_
        refine ⟨x + 1, by show ps.length - (x + 1) < ps.length - x; omega, (by repeat (first | exact Fr.le.nil | refine Fr.le.cons rfl ?_)), by show x + 1 ≤ ps.length; omega, ?_, hE, hB1, hB2, by omega⟩
        show LookAt _ _ _ _ _ _ _ (setAll _ _ (ps.take (x + 1)))
        rw [take_succ hd, setAll_app]
        exact hK
      -- else
      refine CW.exit ?_   -- exit 4
      refine hK17 _ _ ?_; try clear hK17 K17
      refine CW.seq fun K24 hK24 => ?_
      have hSt : S[i]? = some true := by rw [hcb]; simp_all
      have hdrop2 : (reachL (ndsL l) ids).drop j = i :: reachD (ndsL l) i (upd (ndsL l) S i) := by rw [hdrop, reachD, if_pos hSt]
      have hXj : (reachL (ndsL l) ids)[j]? = some i := by
        have h0 : ((reachL (ndsL l) ids).drop j)[0]? = some i := by rw [hdrop2]; rfl
        rwa [List.getElem?_drop, Nat.add_zero] at h0
      have hXl := (List.getElem?_eq_some_iff.1 hXj).1
      have hSe : setAll (ndsL l) S (ps.take x) = upd (ndsL l) S i := by rw [List.take_of_length_le (by omega), upd_yes hyn hSt]
      refine CW.regionI ?_   -- region 15
      refine WI.val (Y.move rfl) (by decide) ?_   -- t74 := move t0
      refine WI.val (Y.move rfl) (by decide) ?_   -- t75 := move t6
      refine WI.yield rfl rfl (hR () j i w7 (hJ () j _ _ hj hE) hXj trivial) (by decide) (fun b76 w11 hR11 => ?_)   -- t76 := call t74(t75) : 3
      skip
      refine WI.val (Y.not rfl) (by decide) ?_   -- t77 := unOp not 4 t76
      refine WI.nil ?_
      refine hK24 _ _ ?_; try clear hK24 K24
      first | refine CW.condD rfl (fun ht25 => ?_) (fun ht25 => ?_) | refine CW.condND rfl (fun ht25 => ?_) (fun ht25 => ?_) | refine CW.condN rfl (fun ht25 => ?_) (fun ht25 => ?_) | refine CW.cond rfl (fun ht25 => ?_) (fun ht25 => ?_)
      · -- then
        refine CW.ret ⟨_, rfl, ?_⟩
        rcases hR11 with ⟨hb, _⟩ | ⟨_, h, hc⟩
        · simp_all
        · exact ⟨.inr h, _, (hK.chg hc (fun h => h (.inr (.inl rfl))) (fun h => h (.inr (.inr (.inl rfl)))) (fun h => h (.inr (.inr (.inr (.inl rfl))))) (fun k hk => Nat.le_of_not_lt fun h => hk (.inl h)))⟩
      -- else
      refine CW.skip ?_
      rcases hR11 with ⟨_, hj2, hc⟩ | ⟨hb, _⟩
      · refine ⟨(j + 1, upd (ndsL l) S i), (by repeat (first | exact Fr.le.nil | refine Fr.le.cons rfl ?_)), ?_, by show j + 1 ≤ _; omega, ?_, hj2, hB1.chg hc (fun h => h (.inr (.inr (.inr (.inr (.inl rfl)))))), hB2.chg hc (fun h => h (.inr (.inr (.inr (.inr (.inr rfl))))))⟩
        · rw [hSe] at hK
          exact hK.chg hc (fun h => h (.inr (.inl rfl))) (fun h => h (.inr (.inr (.inl rfl)))) (fun h => h (.inr (.inr (.inr (.inl rfl))))) (fun k hk => Nat.le_of_not_lt fun h => hk (.inl h))
        · have h1 := congrArg List.tail hdrop2
          simpa [List.tail_drop] using h1
      · simp_all
    rintro u w12 hj12
    obtain ⟨j2, S2⟩ := u
    dsimp only at hj12 ⊢
    obtain ⟨hK, hjl, hdrop, hj, hB1, hB2⟩ := hj12
    refine CW.region ?_   -- region 8
    refine WL.val (Y.move rfl) (by decide) ?_   -- t39 := move t6
    refine WL.val (Y.sub rfl rfl ⟨by omega, by omega⟩) (by decide) ?_   -- t40 := binOp sub 3 t39 c(1:i64) 3
    refine WL.val (Y.assign rfl) (by decide) ?_   -- t6 := assign t40
    refine WL.nil ?_
    exact ⟨(i, j2, S2), by show i < i + 1; omega, (by repeat (first | exact Fr.le.nil | refine Fr.le.cons rfl ?_)), by show i ≤ l.length; omega, hK, hjl, hdrop, hj, hB1, hB2⟩
  -- else
  refine CW.exit ?_   -- exit 2
  refine ⟨_, rfl, ?_⟩
  refine ⟨.inl ⟨(), ?_⟩, _, hK⟩
  have h0 : (reachL (ndsL l) ids).drop j = [] := by rw [hdrop, show k = 0 by omega]; rfl
  have h1 := List.drop_eq_nil_iff.1 h0
  rw [show (reachL (ndsL l) ids).length = j by omega]
  exact hj
end Go.Proofs.Ytecolkngbcgmcaa
