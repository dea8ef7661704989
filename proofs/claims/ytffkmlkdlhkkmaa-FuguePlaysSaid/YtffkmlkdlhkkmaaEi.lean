/- The document's tree: Copy, walked. No condition. -/
import Derived.Test.YtffkmlkdlhkkmaaEh
import Derived.Test.YtffkmlkdlhkkmaaQs
set_option linter.unusedSimpArgs false
set_option linter.unusedVariables false
namespace Go.Proofs.Ytffkmlkdlhkkmaa
open Go.RowKit Go.Fw Go.Fu Go.Pl

set_option maxRecDepth 100000 in
set_option maxHeartbeats 4000000 in
theorem rcopy_any (g : Nat) (ad : List Dig) (rs : List Rn) (av ev_ : Value) (w : World) (hR : RtAt w g ad rs av ev_) (hn : rs.length ≤ 400001) (hks : ∀ x ∈ rs, ∀ s, (side x.el s).length ≤ 400001) (had : ad.length < 4398046511104) : Calls Try.prog 32 #[.pointer (some ⟨g, 0, none⟩)] w (Ret fun v w' => ∃ g' rs' av' ev', v = .pointer (some ⟨g', 0, none⟩) ∧ RtAt w' g' ad rs' av' ev' ∧ rels rs' = rels rs ∧ (∀ q, Rp g' rs' av' ev' q → w.heap.size ≤ q) ∧ Ext w w') := by
  obtain ⟨VA, vm, vc, rfl⟩ := hR.ads.lens
  obtain ⟨EA, m, c, rfl⟩ := hR.es.lens
  have hvm : ad.length = vm := by
    have h1 := (hR.ads.mem VA vm vc rfl).2.2.1
    rw [flat_length digC_length] at h1
    omega
  obtain ⟨hem, hec, hex⟩ : rs.length = m ∧ m ≤ c ∧ c ≤ maxLen := by
    obtain ⟨A1, m1, c1, e, h1, h2, h3, _⟩ := hR.sl
    injection e with e1 e2 e3
    exact ⟨by omega, by omega, by omega⟩
  unfold maxLen at hex
  have hRo := hR
  refine calls_of_CW 51 [2] [(0, .pointer (some ⟨g, 0, none⟩))] Try.func32 rfl rfl rfl (by simp) args1 ?_
  have hE : Ext w w := Chg.refl
  refine CW.seq fun K1 hK1 => ?_
  refine CW.region ?_   -- region 0
  refine WL.val (Y.assign rfl) (by decide) ?_   -- t2 := assign c(['Go.Value.pointer', 'none'])
  refine WL.nil ?_
  refine hK1 _ _ ?_; try clear hK1 K1
  refine CW.seq fun K2 hK2 => ?_
  refine CW.region ?_   -- region 1
  refine WL.st (St.buildSlice0 UD8 sz0_apiDigest) (by decide) fun v6 w1 hR1 => ?_   -- t6 := buildSlice 52 0 []
  obtain ⟨g6, rfl, hg6, hO1, hx1⟩ := hR1
  have hz1 := hx1.size
  have hE := hE.thenExt hx1
  refine WL.val (Y.move rfl) (by decide) ?_   -- t7 := move t0
  refine WL.val (Y.nilCheck rfl) (by decide) ?_   -- t8 := nilCheck t7
  refine WL.val (Y.fieldAddr fo_recensionref08Tree0 rfl) (by decide) ?_   -- t9 := fieldAddr 55 t8 0
  refine WL.val (Y.load1 Try.underlying52 rfl (hR.ext hE).blk.mem.recensionref08Tree0 rfl) (by decide) ?_   -- t10 := load 52 t9
  refine WL.st (St.append (news := flatD ad) UD8 UD8 ai_dig rfl rfl hO1 (Sl.src digC_length ((hR.ext hE).ads.sl digC_length (by decide))) one_digs (by simp only [List.length_nil]; omega)) (by decide) fun v11 w2 hR2 => ?_   -- t11 := call append(t6, t10) : 52,52
  obtain ⟨hO2, hc2, hf2⟩ := hR2
  have hz2 := hc2.size
  rw [List.nil_append] at hO2
  obtain ⟨WA, wm, wc, rfl⟩ := hO2.lens
  have hE := hE.step hc2 (fun q hq => by have := nil_own hq; omega)
  have hgv : ∀ q, (Value.slice WA wm wc).ownBlock = some q → w.heap.size ≤ q := fun q hq => by
    rcases hf2 with h | h
    · rw [h] at hq; have := nil_own hq; omega
    · have := h q hq; omega
  refine WL.val (Y.build rfl (build_tree8a _ rfl _)) (by decide) ?_   -- t12 := build 55 [(0,t11)]
  refine WL.box rfl rfl (by decide) fun g13 w3 hx3 hg13 hB13 => ?_   -- t13 := box 55 t12
  have hlt13 := hB13.lt; have hz3 := hx3.size
  have hM13 := hB13.mem; have hz3 := hx3.size; have hE := hE.thenExt hx3
  refine WL.val (Y.assign rfl) (by decide) ?_   -- t3 := assign t13
  refine WL.nil ?_
  refine hK2 _ _ ?_; try clear hK2 K2
  refine CW.seq fun K3 hK3 => ?_
  refine CW.seq fun K4 hK4 => ?_
  refine CW.region ?_   -- region 2
  refine WL.val (Y.assign rfl) (by decide) ?_   -- t4 := assign c(0:i64)
  refine WL.nil ?_
  refine hK4 _ _ ?_; try clear hK4 K4
  refine CW.block ?_   -- block 0
  refine CW.loop (X := Nat × List Rn × Value) (fun x => [(0, .pointer (some ⟨g, 0, none⟩)), (3, .pointer (some ⟨g13, 0, none⟩)), (4, .int .i64 (x.1 : Int))]) (fun x w0 => x.1 ≤ m ∧ RtAt w0 g13 ad x.2.1 (.slice WA wm wc) x.2.2 ∧ rels x.2.1 = (rels rs).take x.1 ∧ (∀ q, Rp g13 x.2.1 (.slice WA wm wc) x.2.2 q → w.heap.size ≤ q) ∧ Ext w w0) (fun x => m - x.1) (0, [], .slice none 0 0) (by repeat (first | exact Fr.le.nil | refine Fr.le.cons rfl ?_)) ⟨Nat.zero_le _, ⟨hB13, hO2.ext hx3, Own.nil, fun x hx => by simp at hx⟩, rfl, (fun q hq => by
      rcases hq with h | h | h | ⟨x, hx, _⟩
      · omega
      · exact hgv q h
      · simp [Value.ownBlock] at h
      · simp at hx), hE⟩ ?_
  intro x w4 hl4
  obtain ⟨k, rs1, ev1⟩ := x
  dsimp only at hl4 ⊢
  obtain ⟨hkm, hRt, hrl, hfr, hL⟩ := hl4
  obtain ⟨av1, hav1⟩ : ∃ av1, av1 = Value.slice WA wm wc := ⟨_, rfl⟩
  rw [← hav1] at hRt hfr
  have hE0 := hL
  have hR := hRo.ext hL
  have hB13 := hRt.blk
  have hlt13 := hB13.lt
  have hE : Ext w4 w4 := Chg.refl
  refine CW.seq fun K5 hK5 => ?_
  refine CW.seq fun K6 hK6 => ?_
  refine CW.region ?_   -- region 3
  refine WL.val (Y.move rfl) (by decide) ?_   -- t14 := move t4
  refine WL.val (Y.move rfl) (by decide) ?_   -- t15 := move t0
  refine WL.val (Y.nilCheck rfl) (by decide) ?_   -- t16 := nilCheck t15
  refine WL.val (Y.fieldAddr fo_recensionref08Tree1 rfl) (by decide) ?_   -- t17 := fieldAddr 55 t16 1
  refine WL.val (Y.load1 Try.underlying53 rfl ((hR.ext hE).blk.mem.recensionref08Tree1) rfl) (by decide) ?_   -- t18 := load 53 t17
  refine WL.val (Y.len_slice Try.underlying53 rfl) (by decide) ?_   -- t19 := call len(t18) : 53
  refine WL.val (Y.lss rfl rfl) (by decide) ?_   -- t20 := binOp lss 3 t14 t19 3
  refine WL.nil ?_
  refine hK6 _ _ ?_; try clear hK6 K6
  first | refine CW.condD rfl (fun ht7 => ?_) (fun ht7 => ?_) | refine CW.condND rfl (fun ht7 => ?_) (fun ht7 => ?_) | refine CW.condN rfl (fun ht7 => ?_) (fun ht7 => ?_) | refine CW.cond rfl (fun ht7 => ?_) (fun ht7 => ?_)
  · -- then
    refine CW.skip ?_
    refine hK5 _ _ ?_; try clear hK5 K5
    refine CW.seq fun K8 hK8 => ?_
    refine CW.block ?_   -- block 1
    refine CW.seq fun K9 hK9 => ?_
    obtain ⟨y, hy⟩ : ∃ y, rs[k]? = some y := ⟨_, List.getElem?_eq_getElem (by omega)⟩
    have hym := List.mem_of_getElem? hy
    have hkk := hR.kids y hym
    have hkz := hks y hym
    obtain ⟨a, rfl, hma⟩ := hR.sl.get hy
    obtain ⟨el, lv, rv⟩ := y
    obtain ⟨lA, lm, lc, rfl⟩ : ∃ A m c, lv = .slice A m c := (hkk true).lens
    obtain ⟨rA, rm, rc, rfl⟩ : ∃ A m c, rv = .slice A m c := (hkk false).lens
    have hkl := (int_map (show Own w4 TI8 1 (.slice lA lm lc) (intC (side el true)) from hkk true)).1
    have hkr := (int_map (show Own w4 TI8 1 (.slice rA rm rc) (intC (side el false)) from hkk false)).1
    have hzl := hkz true
    have hzr := hkz false
    dsimp only at hzl hzr
    have hye : (rels rs)[k]? = some el := by rw [List.getElem?_map, hy]; rfl
    have hrll : rs1.length = k := by
      have h1 := congrArg List.length hrl
      rw [List.length_map, List.length_take, List.length_map] at h1
      omega
    refine CW.region ?_   -- region 5
    refine WL.val (Y.move rfl) (by decide) ?_   -- t23 := move t0
    refine WL.val (Y.nilCheck rfl) (by decide) ?_   -- t24 := nilCheck t23
    refine WL.val (Y.fieldAddr fo_recensionref08Tree1 rfl) (by decide) ?_   -- t25 := fieldAddr 55 t24 1
    refine WL.val (Y.load1 Try.underlying53 rfl (hR.blk.mem.recensionref08Tree1) rfl) (by decide) ?_   -- t26 := load 53 t25
    refine WL.val (Y.move rfl) (by decide) ?_   -- t27 := move t4
    refine WL.val (Y.indexAddrN Try.underlying53 rfl rfl sz0_recensionref08Elem (by omega)) (by decide) ?_   -- t28 := indexAddr 53 t26 t27
    refine WL.val (Y.load Try.underlying51 rfl hma (sz_recensionref08Elem _ _ _) rfl) (by decide) ?_   -- t29 := load 51 t28
    refine as_recensionref08Elem rfl (by simp) (by decide) fun g5 w5 hx5 hg5 hB5 => ?_   -- alloc 51; store 51 t5 t29
    have hlt5 := hB5.lt; have hz5 := hx5.size
    have hM5 := hB5.mem; have hz5 := hx5.size; have hE := hE.thenExt hx5; have hB13 := hB13.ext hx5
    refine WL.nil ?_
    refine hK9 _ _ ?_; try clear hK9 K9
    refine CW.seq fun K10 hK10 => ?_
    refine CW.region ?_   -- region 6
    refine WL.st (St.buildSlice0 UI sz0_int) (by decide) fun v30 w6 hR6 => ?_   -- t30 := buildSlice 43 0 []
    obtain ⟨ql, rfl, hql, hOl, hx6⟩ := hR6
    have hz6 := hx6.size
    have hE := hE.thenExt hx6
    have hB13 := hB13.ext hx6
    have hB5 := hB5.ext hx6
    refine WL.val (Y.fieldAddr fo_recensionref08Elem3 rfl) (by decide) ?_   -- t31 := fieldAddr 51 t5 3
    refine WL.val (Y.load1 Try.underlying43 rfl hB5.mem.recensionref08Elem3 rfl) (by decide) ?_   -- t32 := load 43 t31
    refine WL.st (St.append (news := intC (side el true)) UI UI ai_int rfl rfl hOl (Own.srcI ((hkk true).ext hE)) one_intC (by have := hzl; simp only [List.length_nil]; omega)) (by decide) fun v33 w7 hR7 => ?_   -- t33 := call append(t30, t32) : 43,43
    obtain ⟨hPl, hc7, hf7⟩ := hR7
    have hz7 := hc7.size
    rw [List.nil_append] at hPl
    obtain ⟨nAl, nml, ncl, rfl⟩ := hPl.lens
    have hE := hE.step hc7 (fun q hq => by have := nil_own hq; omega)
    have hB13 := hB13.chg hc7 (fun h => by have := nil_own h; omega)
    have hB5 := hB5.chg hc7 (fun h => by have := nil_own h; omega)
    have hgl : ∀ q, (Value.slice nAl nml ncl).ownBlock = some q → w5.heap.size ≤ q := fun q hq => by
      rcases hf7 with h | h
      · rw [h] at hq; have := nil_own hq; omega
      · have := h q hq; omega
    refine WL.val (Y.fieldAddr fo_recensionref08Elem3 rfl) (by decide) ?_   -- t34 := fieldAddr 51 t5 3
    refine WL.store (g := g5) (pre := refC el.name ++ [bc el.byte, .bool el.gone]) (old := [.slice lA lm lc]) (post := [.slice rA rm rc]) (new := [.slice nAl nml ncl]) rfl (by first | (rw [add_zero', List.length_append, refC_length]; rfl) | (rw [add_zero', List.length_append, List.length_append, refC_length]; rfl)) rfl rfl (by kernel_rfl) (by simpa [nodeC] using hB5) (by first | rfl | (simp [digC_length, opC_length]; done) | (simp only [digC_length, opC_length]; omega)) (one1 rfl) (fun w8 hc8 hB8_ => ?_)   -- _ := store 43 t34 t33
    have hz8 := hc8.size; have hE := hE.step hc8 (fun k h => by omega); have hB13 := hB13.chg hc8 (fun h => by omega)
    have hB5 : Blk w8 g5 TE8 (nodeC el (.slice nAl nml ncl) (.slice rA rm rc)) := by simpa [nodeC] using hB8_
    have hPl := hPl.chg hc8 (fun q hq e => by have := hgl q hq; omega)
    refine WL.nil ?_
    refine hK10 _ _ ?_; try clear hK10 K10
    refine CW.seq fun K11 hK11 => ?_
    refine CW.region ?_   -- region 7
    refine WL.st (St.buildSlice0 UI sz0_int) (by decide) fun v35 w9 hR9 => ?_   -- t35 := buildSlice 43 0 []
    obtain ⟨qr, rfl, hqr, hOr, hx9⟩ := hR9
    have hz9 := hx9.size
    have hE := hE.thenExt hx9
    have hB13 := hB13.ext hx9
    have hB5 := hB5.ext hx9
    refine WL.val (Y.fieldAddr fo_recensionref08Elem4 rfl) (by decide) ?_   -- t36 := fieldAddr 51 t5 4
    refine WL.val (Y.load1 Try.underlying43 rfl hB5.mem.recensionref08Elem4 rfl) (by decide) ?_   -- t37 := load 43 t36
    refine WL.st (St.append (news := intC (side el false)) UI UI ai_int rfl rfl hOr (Own.srcI ((hkk false).ext hE)) one_intC (by have := hzr; simp only [List.length_nil]; omega)) (by decide) fun v38 w10 hR10 => ?_   -- t38 := call append(t35, t37) : 43,43
    obtain ⟨hPr, hc10, hf10⟩ := hR10
    have hz10 := hc10.size
    rw [List.nil_append] at hPr
    obtain ⟨nAr, nmr, ncr, rfl⟩ := hPr.lens
    have hE := hE.step hc10 (fun q hq => by have := nil_own hq; omega)
    have hB13 := hB13.chg hc10 (fun h => by have := nil_own h; omega)
    have hB5 := hB5.chg hc10 (fun h => by have := nil_own h; omega)
    have hgr : ∀ q, (Value.slice nAr nmr ncr).ownBlock = some q → w5.heap.size ≤ q := fun q hq => by
      rcases hf10 with h | h
      · rw [h] at hq; have := nil_own hq; omega
      · have := h q hq; omega
    refine WL.val (Y.fieldAddr fo_recensionref08Elem4 rfl) (by decide) ?_   -- t39 := fieldAddr 51 t5 4
    refine WL.store (g := g5) (pre := refC el.name ++ [bc el.byte, .bool el.gone] ++ [.slice nAl nml ncl]) (old := [.slice rA rm rc]) (post := []) (new := [.slice nAr nmr ncr]) rfl (by first | (rw [add_zero', List.length_append, refC_length]; rfl) | (rw [add_zero', List.length_append, List.length_append, refC_length]; rfl)) rfl rfl (by kernel_rfl) (by simpa [nodeC] using hB5) (by first | rfl | (simp [digC_length, opC_length]; done) | (simp only [digC_length, opC_length]; omega)) (one1 rfl) (fun w11 hc11 hB11_ => ?_)   -- _ := store 43 t39 t38
    have hz11 := hc11.size; have hE := hE.step hc11 (fun k h => by omega); have hB13 := hB13.chg hc11 (fun h => by omega)
    have hB5 : Blk w11 g5 TE8 (nodeC el (.slice nAl nml ncl) (.slice nAr nmr ncr)) := by simpa [nodeC] using hB11_
    have hE411 := hE
    have hl8 := hPl.lt
    have hPl := ((hPl.ext hx9).chg hc10 (fun q hq h => by have := nil_own h; have := hl8 q hq; omega)).chg hc11 (fun q hq e => by have := hgl q hq; omega)
    have hPr := hPr.chg hc11 (fun q hq e => by have := hgr q hq; omega)
    have hn5 : ¬ (g5 = g13 ∨ ev1.ownBlock = some g5) := fun h => by
      rcases h with h | h
      · omega
      · have := hRt.es.lt g5 h; omega
    refine WL.nil ?_
    refine hK11 _ _ ?_; try clear hK11 K11
    refine CW.held (fun wq => Chg (fun q => q = g13 ∨ ev1.ownBlock = some q) w11 wq) (by kernel_rfl) 11 rfl fun w12 hx12 => ?_
    have hS : (Chg (fun q => q = g13 ∨ ev1.ownBlock = some q) w11 w12) := Ext.chg hx12
    have hEb : Ext w4 w12 := hE.thenExt hx12
    have hB13 := hB13.ext hx12
    have hz12 := hx12.size
    refine RH.take 0 (fun _ _ _ _ h => h) (by kernel_rfl) hS rfl (by kernel_rfl) (by kernel_rfl) (fun wq hq => Y.move rfl) (by decide) ?_   -- t40 := move t3
    refine RH.take 1 (fun _ _ _ _ h => h) (by kernel_rfl) hS rfl (by kernel_rfl) (by kernel_rfl) (fun wq hq => Y.move rfl) (by decide) ?_   -- t41 := move t3
    refine RH.take 2 (fun _ _ _ _ h => h) (by kernel_rfl) hS rfl (by kernel_rfl) (by kernel_rfl) (fun wq hq => Y.nilCheck rfl) (by decide) ?_   -- t42 := nilCheck t41
    refine RH.take 3 (fun _ _ _ _ h => h) (by kernel_rfl) hS rfl (by kernel_rfl) (by kernel_rfl) (fun wq hq => Y.fieldAddr fo_recensionref08Tree1 rfl) (by decide) ?_   -- t43 := fieldAddr 55 t42 1
    refine RH.take 5 (fun _ _ _ _ h => h) (by kernel_rfl) hS rfl (by kernel_rfl) (by kernel_rfl) (fun wq hq => Y.load Try.underlying51 rfl (hB5.chg hq hn5).mem (sz_recensionref08Elem _ _ _) rfl) (by decide) ?_   -- t45 := load 51 t5
    refine RH.two 4 6 (by kernel_rfl) ?_ ?_
    · skip
      refine RS.val rfl (Y.load1 Try.underlying53 rfl hB13.mem.recensionref08Tree1 rfl) (by decide) ⟨hS, ?_⟩   -- t44 := load 53 t43
      refine RH.one 6 (by kernel_rfl) ?_
      refine RS.st rfl (St.buildSlice rfl (bs1_elem ⟨el, .slice nAl nml ncl, .slice nAr nmr ncr⟩)) (by decide) fun v46 w13 hR13 => ?_   -- buildSlice 53 1 [(0,t45)]
      obtain ⟨g46, rfl, hg46, hB46, hxa⟩ := hR13
      have hza := hxa.size
      have hEa := hEb.thenExt hxa
      have hB13 := hB13.ext hxa
      have hS : (Chg (fun q => q = g13 ∨ ev1.ownBlock = some q) w11 w13) := hS.thenExt hxa
      refine ⟨hS, ?_⟩
      refine RH.one 7 (by kernel_rfl) ?_
      refine RS.st rfl (St.append (m := 1) (news := rC ⟨el, .slice nAl nml ncl, .slice nAr nmr ncr⟩) UE8 UE8 ai_elem rfl rfl (hRt.ext hEa).es (Fw.Src.one hB46 (rC_length _)) (one_nodeC rfl rfl) (by rw [flat_length rC_length]; omega)) (by decide) fun v47 w14 hR14 => ?_   -- call append(t44, t46) : 53,53
      obtain ⟨hOe, hce, hfe⟩ := hR14
      have hze := hce.size
      have hS : (Chg (fun q => q = g13 ∨ ev1.ownBlock = some q) w11 w14) := hS.trans hce (fun q _ h => .inr h)
      obtain ⟨eA, em, ek, rfl⟩ := hOe.lens
      have hB13 := hB13.chg hce (fun h => hRt.ne.2.1 g13 h rfl)
      refine ⟨hS, ?_⟩
      refine RH.take 8 (fun _ _ _ _ h => h) (by kernel_rfl) hS rfl (by kernel_rfl) (by kernel_rfl) (fun wq hq => Y.nilCheck rfl) (by decide) ?_   -- t48 := nilCheck t40
      refine RH.take 9 (fun _ _ _ _ h => h) (by kernel_rfl) hS rfl (by kernel_rfl) (by kernel_rfl) (fun wq hq => Y.fieldAddr fo_recensionref08Tree1 rfl) (by decide) ?_   -- t49 := fieldAddr 55 t48 1
      refine RH.one 10 (by kernel_rfl) ?_
      refine RS.store rfl (g := g13) (pre := [av1]) (old := [ev1]) (post := []) (new := [.slice eA em ek]) rfl rfl rfl rfl (by kernel_rfl) hB13 rfl (one1 rfl) (fun w15 hc15 hB15_ => ?_)   -- store 53 t49 t47
      have hS : (Chg (fun q => q = g13 ∨ ev1.ownBlock = some q) w11 w15) := hS.trans hc15 (fun q _ h => .inl h)
      have hzc := hc15.size
      have hef : ∀ q, (Value.slice eA em ek).ownBlock = some q → ev1.ownBlock = some q ∨ w11.heap.size ≤ q := fun q hq => by
        rcases hfe with h | h
        · rw [h] at hq; exact .inl hq
        · exact .inr (by have := h q hq; omega)
      have hOc : Own w15 TE8 38 (.slice eA em ek) (((rs1 ++ [(⟨el, .slice nAl nml ncl, .slice nAr nmr ncr⟩ : Rn)]).map rC).flatten) := by
        have h9 := hOe.chg hc15 (fun q hq e => by
          rcases hef q hq with h | h
          · exact hRt.ne.2.1 q h e
          · omega)
        simpa using h9
      have hCC : Chg (fun q => q = g13 ∨ ev1.ownBlock = some q) w4 w15 := (Ext.chg hE411).trans hS (fun q _ h => h)
      have hkS : ∀ s, Own w15 TI8 1 ((⟨el, .slice nAl nml ncl, .slice nAr nmr ncr⟩ : Rn).sv s) (intC (side el s)) := fun s => by
        cases s
        · exact hPr.chg hS (fun q hq h => by
            have h2 := hgr q hq
            rcases h with h | h
            · omega
            · have := hRt.es.lt q h; omega)
        · exact hPl.chg hS (fun q hq h => by
            have h2 := hgl q hq
            rcases h with h | h
            · omega
            · have := hRt.es.lt q h; omega)
      have hRt2 := hRt.push (y := ⟨el, .slice nAl nml ncl, .slice nAr nmr ncr⟩) hCC (fun q h => h) hB15_ hOc hkS
      have hfr2 : ∀ q, Rp g13 (rs1 ++ [⟨el, .slice nAl nml ncl, .slice nAr nmr ncr⟩]) av1 (.slice eA em ek) q → w.heap.size ≤ q := fun q hq => by
        rcases Rp.pushR (ev_ := ev1) hq with h | h | ⟨s, h⟩
        · exact hfr q h
        · rcases hef q h with h | h
          · exact hfr q (.inr (.inr (.inl h)))
          · omega
        · cases s
          · have := hgr q h; omega
          · have := hgl q h; omega
      have hEN : Ext w w15 := hL.step hCC (fun q h => by
        rcases h with h | h
        · exact hfr q (.inl h)
        · exact hfr q (.inr (.inr (.inl h))))
      rw [hav1] at hRt2 hfr2
      refine ⟨hS, ?_⟩
      refine RH.done (by kernel_rfl) ?_
      skip
      refine hK8 _ _ ?_; try clear hK8 K8
      refine CW.region ?_   -- region 4
      refine WL.val (Y.move rfl) (by decide) ?_   -- t21 := move t4
      refine WL.val (Y.add rfl rfl ⟨by omega, by omega⟩) (by decide) ?_   -- t22 := binOp add 3 t21 c(1:i64) 3
      refine WL.val (Y.assign rfl) (by decide) ?_   -- t4 := assign t22
      refine WL.nil ?_
      exact ⟨(k + 1, rs1 ++ [⟨el, .slice nAl nml ncl, .slice nAr nmr ncr⟩], .slice eA em ek), (by show m - (k + 1) < m - k; omega), (by repeat (first | exact Fr.le.nil | refine Fr.le.cons rfl ?_)), (by show k + 1 ≤ m; omega), hRt2, (by show rels (rs1 ++ [_]) = _; rw [Go.Pl.take_succ hye, ← hrl, rels, List.map_append]; rfl), hfr2, hEN⟩
    · skip
      refine RS.st rfl (St.buildSlice rfl (bs1_elem ⟨el, .slice nAl nml ncl, .slice nAr nmr ncr⟩)) (by decide) fun v46 w16 hR16 => ?_   -- buildSlice 53 1 [(0,t45)]
      obtain ⟨g46, rfl, hg46, hB46, hxa⟩ := hR16
      have hza := hxa.size
      have hEa := hEb.thenExt hxa
      have hB13 := hB13.ext hxa
      have hS : (Chg (fun q => q = g13 ∨ ev1.ownBlock = some q) w11 w16) := hS.thenExt hxa
      refine ⟨hS, ?_⟩
      refine RH.one 4 (by kernel_rfl) ?_
      refine RS.val rfl (Y.load1 Try.underlying53 rfl hB13.mem.recensionref08Tree1 rfl) (by decide) ⟨hS, ?_⟩   -- t44 := load 53 t43
      refine RH.one 7 (by kernel_rfl) ?_
      refine RS.st rfl (St.append (m := 1) (news := rC ⟨el, .slice nAl nml ncl, .slice nAr nmr ncr⟩) UE8 UE8 ai_elem rfl rfl (hRt.ext hEa).es (Fw.Src.one hB46 (rC_length _)) (one_nodeC rfl rfl) (by rw [flat_length rC_length]; omega)) (by decide) fun v47 w17 hR17 => ?_   -- call append(t44, t46) : 53,53
      obtain ⟨hOe, hce, hfe⟩ := hR17
      have hze := hce.size
      have hS : (Chg (fun q => q = g13 ∨ ev1.ownBlock = some q) w11 w17) := hS.trans hce (fun q _ h => .inr h)
      obtain ⟨eA, em, ek, rfl⟩ := hOe.lens
      have hB13 := hB13.chg hce (fun h => hRt.ne.2.1 g13 h rfl)
      refine ⟨hS, ?_⟩
      refine RH.take 8 (fun _ _ _ _ h => h) (by kernel_rfl) hS rfl (by kernel_rfl) (by kernel_rfl) (fun wq hq => Y.nilCheck rfl) (by decide) ?_   -- t48 := nilCheck t40
      refine RH.take 9 (fun _ _ _ _ h => h) (by kernel_rfl) hS rfl (by kernel_rfl) (by kernel_rfl) (fun wq hq => Y.fieldAddr fo_recensionref08Tree1 rfl) (by decide) ?_   -- t49 := fieldAddr 55 t48 1
      refine RH.one 10 (by kernel_rfl) ?_
      refine RS.store rfl (g := g13) (pre := [av1]) (old := [ev1]) (post := []) (new := [.slice eA em ek]) rfl rfl rfl rfl (by kernel_rfl) hB13 rfl (one1 rfl) (fun w18 hc18 hB18_ => ?_)   -- store 53 t49 t47
      have hS : (Chg (fun q => q = g13 ∨ ev1.ownBlock = some q) w11 w18) := hS.trans hc18 (fun q _ h => .inl h)
      have hzc := hc18.size
      have hef : ∀ q, (Value.slice eA em ek).ownBlock = some q → ev1.ownBlock = some q ∨ w11.heap.size ≤ q := fun q hq => by
        rcases hfe with h | h
        · rw [h] at hq; exact .inl hq
        · exact .inr (by have := h q hq; omega)
      have hOc : Own w18 TE8 38 (.slice eA em ek) (((rs1 ++ [(⟨el, .slice nAl nml ncl, .slice nAr nmr ncr⟩ : Rn)]).map rC).flatten) := by
        have h9 := hOe.chg hc18 (fun q hq e => by
          rcases hef q hq with h | h
          · exact hRt.ne.2.1 q h e
          · omega)
        simpa using h9
      have hCC : Chg (fun q => q = g13 ∨ ev1.ownBlock = some q) w4 w18 := (Ext.chg hE411).trans hS (fun q _ h => h)
      have hkS : ∀ s, Own w18 TI8 1 ((⟨el, .slice nAl nml ncl, .slice nAr nmr ncr⟩ : Rn).sv s) (intC (side el s)) := fun s => by
        cases s
        · exact hPr.chg hS (fun q hq h => by
            have h2 := hgr q hq
            rcases h with h | h
            · omega
            · have := hRt.es.lt q h; omega)
        · exact hPl.chg hS (fun q hq h => by
            have h2 := hgl q hq
            rcases h with h | h
            · omega
            · have := hRt.es.lt q h; omega)
      have hRt2 := hRt.push (y := ⟨el, .slice nAl nml ncl, .slice nAr nmr ncr⟩) hCC (fun q h => h) hB18_ hOc hkS
      have hfr2 : ∀ q, Rp g13 (rs1 ++ [⟨el, .slice nAl nml ncl, .slice nAr nmr ncr⟩]) av1 (.slice eA em ek) q → w.heap.size ≤ q := fun q hq => by
        rcases Rp.pushR (ev_ := ev1) hq with h | h | ⟨s, h⟩
        · exact hfr q h
        · rcases hef q h with h | h
          · exact hfr q (.inr (.inr (.inl h)))
          · omega
        · cases s
          · have := hgr q h; omega
          · have := hgl q h; omega
      have hEN : Ext w w18 := hL.step hCC (fun q h => by
        rcases h with h | h
        · exact hfr q (.inl h)
        · exact hfr q (.inr (.inr (.inl h))))
      rw [hav1] at hRt2 hfr2
      refine ⟨hS, ?_⟩
      refine RH.done (by kernel_rfl) ?_
      skip
      refine hK8 _ _ ?_; try clear hK8 K8
      refine CW.region ?_   -- region 4
      refine WL.val (Y.move rfl) (by decide) ?_   -- t21 := move t4
      refine WL.val (Y.add rfl rfl ⟨by omega, by omega⟩) (by decide) ?_   -- t22 := binOp add 3 t21 c(1:i64) 3
      refine WL.val (Y.assign rfl) (by decide) ?_   -- t4 := assign t22
      refine WL.nil ?_
      exact ⟨(k + 1, rs1 ++ [⟨el, .slice nAl nml ncl, .slice nAr nmr ncr⟩], .slice eA em ek), (by show m - (k + 1) < m - k; omega), (by repeat (first | exact Fr.le.nil | refine Fr.le.cons rfl ?_)), (by show k + 1 ≤ m; omega), hRt2, (by show rels (rs1 ++ [_]) = _; rw [Go.Pl.take_succ hye, ← hrl, rels, List.map_append]; rfl), hfr2, hEN⟩
  -- else
  refine CW.exit ?_   -- exit 0
  refine hK3 _ _ ?_; try clear hK3 K3
  refine CW.seq fun K12 hK12 => ?_
  refine CW.region ?_   -- region 9
  refine WL.val (Y.move rfl) (by decide) ?_   -- t50 := move t3
  refine WL.val (Y.assign rfl) (by decide) ?_   -- t2 := assign t50
  refine WL.nil ?_
  refine hK12 _ _ ?_; try clear hK12 K12
  refine CW.ret ⟨_, rfl, ?_⟩
  exact ⟨g13, rs1, _, ev1, rfl, hRt, (by rw [hrl]; exact List.take_of_length_le (by rw [List.length_map]; omega)), hfr, hE0⟩
end Go.Proofs.Ytffkmlkdlhkkmaa
