/- The document's trees: Gap, Text, walked. No condition. -/
import Derived.Test.YtffkmlkdlhkkmaaFh
import Derived.Test.YtffkmlkdlhkkmaaQv
import Derived.Test.YtffkmlkdlhkkmaaIa
set_option linter.unusedSimpArgs false
set_option linter.unusedVariables false
namespace Go.Proofs.Ytffkmlkdlhkkmaa
open Go.RowKit Go.Fw Go.Fu Go.Pl
theorem mi_u8 : MakeInfo Try.prog 5 [bc 0] 1 := by
  have h : (Try.prog.info? 5).map (fun i => (i.size, i.bytes, i.zero)) = some (1, 1, some (bc 0)) := by kernel_rfl
  obtain ⟨i, hi, h⟩ := Option.map_eq_some_iff.1 h
  injection h with h1 h2
  injection h2 with h2 h3
  exact ⟨i, _, hi, h3, rfl, h1, h2⟩
theorem rep_bytes (m : Nat) : (List.replicate m [bc 0]).flatten = bytesC (List.replicate m 0) := by
  induction m with
  | zero => rfl
  | succ m ih => rw [List.replicate_succ, List.replicate_succ, List.flatten_cons, ih]; rfl

set_option maxRecDepth 100000 in
set_option maxHeartbeats 1000000 in
theorem rgap_any (g : Nat) (ad : List Dig) (rs : List Rn) (av ev_ : Value) (n : Int) (w : World) (hR : RtAt w g ad rs av ev_) (hG : Fu.Good (rels rs)) (hn : rs.length ≤ 400001) : Calls Try.prog 47 #[.pointer (some ⟨g, 0, none⟩), .int .i64 n] w (Ret fun v w' => v = .tuple #[refV (gapE (rels rs) n).1, .bool (gapE (rels rs) n).2.1, .bool (gapE (rels rs) n).2.2] ∧ Ext w w') := by
  obtain ⟨A, m, c, rfl⟩ := hR.es.lens
  have hsl := hR.sl
  have hel : (rels rs).length = rs.length := List.length_map _
  have hmm : rs.length = m ∧ m ≤ c ∧ c ≤ maxLen := by
    obtain ⟨A', m', c', e, h1, h2, h3, _⟩ := hsl
    injection e with e1 e2 e3
    exact ⟨by omega, by omega, by omega⟩
  unfold maxLen at hmm
  have hat : ∀ i x, rs[i]? = some x → ∃ a, A = some a ∧ Mem w (a.add (i * 38)) (rC x) := fun i x hx => hsl.get hx
  have hxe : ∀ (i : Nat) (x : Rn), rs[i]? = some x → (rels rs)[i]? = some x.el := fun i x hx => by rw [List.getElem?_map, hx]; rfl
  have hpos := hG.pos
  obtain ⟨x0, hx0⟩ : ∃ x, rs[0]? = some x := ⟨_, List.getElem?_eq_getElem (by omega)⟩
  obtain ⟨EA, hEA, _⟩ := hat 0 x0 hx0
  subst hEA
  have hme : ∀ i x, rs[i]? = some x → Mem w (EA.add (i * 38)) (rC x) := fun i x hx => by
    obtain ⟨a, ha, h⟩ := hat i x hx
    cases ha; exact h
  have hol : (orderE (rels rs)).length = rs.length := by
    have := hG.perm.length_eq
    rwa [List.length_range, hel] at this
  have hsn : (seenE (rels rs)).length ≤ 400001 := by
    have : (seenE (rels rs)).length ≤ (orderE (rels rs)).length := List.length_filter_le _ _
    omega
  obtain ⟨ir, hir, hzr, hsr⟩ := info_apiRef
  refine calls_of_CWct 74 4 34 [5, 6] [(0, .pointer (some ⟨g, 0, none⟩)), (1, .int .i64 n)] Try.func47 rfl rfl rfl Try.underlying49 rfl (by kernel_rfl) (by simp) args2 ?_
  have hE : Ext w w := Chg.refl
  refine CW.seq fun K1 hK1 => ?_
  refine CW.region ?_   -- region 0
  refine WL.alloc (hir) (hzr) rfl (by decide) fun g4 w1 hx1 hg4 hB4 => ?_   -- t4 := alloc 49
  have hlt4 := hB4.lt; have hz1 := hx1.size
  have hM4 := hB4.mem; have hz1 := hx1.size; have hE := hE.thenExt hx1
  refine WL.val (Y.assign rfl) (by decide) ?_   -- t5 := assign c(false)
  refine WL.val (Y.assign rfl) (by decide) ?_   -- t6 := assign c(false)
  refine WL.nil ?_
  refine hK1 _ _ ?_; try clear hK1 K1
  refine CW.seq fun K2 hK2 => ?_
  refine CW.region ?_   -- region 1
  refine WL.val (Y.move rfl) (by decide) ?_   -- t11 := move t0
  refine WL.call Try.func18 rfl rfl rfl (rseen_any g ad rs av _ _ (hR.ext hE) hG hn) (by simp) ?_; rintro v12 w2 hR2   -- t12 := call F18(t11) : 28
  obtain ⟨hOS, hfS, hxS⟩ := hR2
  have hzS := hxS.size
  obtain ⟨SA, Sm, Sc, rfl⟩ := hOS.lens
  obtain ⟨hlmS, hlgS⟩ := int_map hOS
  have hccS := (hOS.mem SA Sm Sc rfl).2.2.2
  unfold maxLen at hccS
  have hE := hE.thenExt hxS
  have hB4 := hB4.ext hxS
  refine WL.val (Y.assign rfl) (by decide) ?_   -- t7 := assign t12
  refine WL.nil ?_
  refine hK2 _ _ ?_; try clear hK2 K2
  refine CW.seq fun K3 hK3 => ?_
  refine CW.seq_test 20 (n < 0 ∨ (Sm : Int) < n) ?_ ?_
  · refine CW.region ?_
    refine WL.val (Y.move rfl) (by decide) ?_   -- t13 := move t1
    refine WL.val (Y.lss rfl rfl) (by decide) ?_   -- t14 := binOp lss 3 t13 c(0:i64) 3
    refine WL.val (Y.move rfl) (by decide) ?_   -- t15 := move t14
    first | refine WL.casesD (d := 15) rfl (fun hg15 => ?_) (fun hg15 => ?_) | refine WL.casesND (d := 15) rfl (fun hg15 => ?_) (fun hg15 => ?_) | refine WL.cases (d := 15) rfl (fun hg15 => ?_) (fun hg15 => ?_)
    · -- t15 = T
      refine WL.goff rfl rfl (by decide) ?_   -- t16 := move t1 [if 2=false]
      refine WL.goff rfl rfl (by decide) ?_   -- t17 := move t7 [if 2=false]
      refine WL.goff rfl rfl (by decide) ?_   -- t18 := call len(t17) : 43 [if 2=false]
      refine WL.goff rfl rfl (by decide) ?_   -- t19 := binOp gtr 3 t16 t18 3 [if 2=false]
      refine WL.val (Y.pick rfl rfl) (by decide) ?_   -- t20 := pick t15 c(true) t19
      refine WL.nil ⟨⟨_, rfl, ?_⟩, rfl, (by repeat (first | exact Fr.le.refl | refine Fr.le.push rfl ?_))⟩
      first | (simp only [*, Int.natCast_inj, Bool.not_eq_true', decide_eq_false_iff_not, decide_eq_true_eq, not_true_eq_false, not_false_eq_true, true_and, false_and, and_true, and_false, false_or, or_false, true_or, or_true, iff_true, true_iff, iff_false, false_iff]; done) | (simp_all; done) | (refine congrArg Value.bool (Bool.eq_iff_iff.2 ?_); simp_all; done) | (simp_all; omega)
    · -- t15 = F
      refine WL.gval rfl rfl (Y.move rfl) (by decide) ?_   -- t16 := move t1 [if 2=false]
      refine WL.gval rfl rfl (Y.move rfl) (by decide) ?_   -- t17 := move t7 [if 2=false]
      refine WL.gval rfl rfl (Y.len_slice Try.underlying43 rfl) (by decide) ?_   -- t18 := call len(t17) : 43 [if 2=false]
      refine WL.gval rfl rfl (Y.gtr rfl rfl) (by decide) ?_   -- t19 := binOp gtr 3 t16 t18 3 [if 2=false]
      refine WL.val (Y.pick rfl rfl) (by decide) ?_   -- t20 := pick t15 c(true) t19
      refine WL.nil ⟨⟨_, rfl, ?_⟩, rfl, (by repeat (first | exact Fr.le.refl | refine Fr.le.push rfl ?_))⟩
      first | (simp only [*, Int.natCast_inj, Bool.not_eq_true', decide_eq_false_iff_not, decide_eq_true_eq, not_true_eq_false, not_false_eq_true, true_and, false_and, and_true, and_false, false_or, or_false, true_or, or_true, iff_true, true_iff, iff_false, false_iff]; done) | (simp_all; done) | (refine congrArg Value.bool (Bool.eq_iff_iff.2 ?_); simp_all; done) | (simp_all; omega)
  first | refine CW.condD rfl (fun ht4 => ?_) (fun ht4 => ?_) | refine CW.condND rfl (fun ht4 => ?_) (fun ht4 => ?_) | refine CW.condN rfl (fun ht4 => ?_) (fun ht4 => ?_) | refine CW.cond rfl (fun ht4 => ?_) (fun ht4 => ?_)
  · -- then
    refine CW.seq fun K5 hK5 => ?_
    refine CW.region ?_   -- region 3
    refine WL.val (Y.build0 (build_apiRef _)) (by decide) ?_   -- t21 := build 49 []
    refine WL.store (g := g4) (pre := []) (old := refC RefD.zero) (post := []) (new := refC RefD.zero) rfl rfl rfl rfl (sz_apiRef _) (by simpa using hB4) (by simp only [refC_length]) (one_refC) (fun w3 hc3 hB3_ => ?_)   -- _ := store 49 t4 t21
    have hz3 := hc3.size; have hE := hE.step hc3 (fun k h => by omega)
    have hB4 : Blk w3 g4 49 (refC RefD.zero) := by simpa using hB3_
    refine WL.val (Y.assign rfl) (by decide) ?_   -- t5 := assign c(false)
    refine WL.val (Y.assign rfl) (by decide) ?_   -- t6 := assign c(false)
    refine WL.nil ?_
    refine hK5 _ _ ?_; try clear hK5 K5
    refine CW.ret ?_
    exact ⟨_, _, _, rfl, hB4.mem, refC_length _, rfl, ⟨by rw [gapE, if_pos (by rw [hlmS]; assumption)], hE⟩⟩
  -- else
  refine CW.skip ?_
  refine hK3 _ _ ?_; try clear hK3 K3
  refine CW.seq fun K6 hK6 => ?_
  refine CW.region ?_   -- region 4
  refine WL.val (Y.assign rfl) (by decide) ?_   -- t8 := assign c(0:i64)
  refine WL.nil ?_
  refine hK6 _ _ ?_; try clear hK6 K6
  refine CW.seq_to (X := Unit) (fun _ => [(0, .pointer (some ⟨g, 0, none⟩)), (4, .pointer (some ⟨g4, 0, none⟩)), (8, .int .i64 ((gapI (rels rs) n) : Int))]) (fun _ w0 => w0 = w2) ?_ ?_
  · skip
    refine CW.seq fun K8 hK8 => ?_
    refine CW.region ?_   -- region 5
    refine WL.val (Y.move rfl) (by decide) ?_   -- t22 := move t1
    refine WL.val (Y.gtr rfl rfl) (by decide) ?_   -- t23 := binOp gtr 3 t22 c(0:i64) 3
    refine WL.nil ?_
    refine hK8 _ _ ?_; try clear hK8 K8
    first | refine CW.condD rfl (fun ht9 => ?_) (fun ht9 => ?_) | refine CW.condND rfl (fun ht9 => ?_) (fun ht9 => ?_) | refine CW.condN rfl (fun ht9 => ?_) (fun ht9 => ?_) | refine CW.cond rfl (fun ht9 => ?_) (fun ht9 => ?_)
    · -- then
      obtain ⟨i, rfl⟩ : ∃ i : Nat, n = (i : Int) + 1 := ⟨(n - 1).toNat, by omega⟩
      obtain ⟨q, hqk⟩ : ∃ q, (seenE (rels rs))[i]? = some q := ⟨_, List.getElem?_eq_getElem (by omega)⟩
      obtain ⟨oa, rfl, hmo⟩ := hlgS i q hqk
      have hql : q < rs.length := by have := seen_lt hG.down (List.mem_of_getElem? hqk); omega
      obtain ⟨y, hy⟩ : ∃ y, rs[q]? = some y := ⟨_, List.getElem?_eq_getElem hql⟩
      have hye := hxe q y hy
      have hmy := hme q y hy
      refine CW.region ?_   -- region 6
      refine WL.val (Y.move rfl) (by decide) ?_   -- t24 := move t7
      refine WL.val (Y.move rfl) (by decide) ?_   -- t25 := move t1
      refine WL.val (Y.sub rfl rfl ⟨by omega, by omega⟩) (by decide) ?_   -- t26 := binOp sub 3 t25 c(1:i64) 3
      rw [show ((i : Int) + 1 - 1) = (i : Int) by omega]
      refine WL.val (Y.indexAddrN Try.underlying43 rfl rfl sz0_int (by omega)) (by decide) ?_   -- t27 := indexAddr 43 t24 t26
      refine WL.val (Y.load1 Try.underlying3 rfl hmo.cell0 rfl) (by decide) ?_   -- t28 := load 3 t27
      refine WL.val (Y.assign rfl) (by decide) ?_   -- t8 := assign t28
      refine WL.nil ?_
      exact ⟨(), (by rw [show gapI (rels rs) ((i : Int) + 1) = q by rw [gapI, if_neg (by omega), show ((i : Int) + 1 - 1).toNat = i by omega, hqk]; rfl]; exact (by repeat (first | exact Fr.le.nil | refine Fr.le.cons rfl ?_))), rfl⟩
    -- else
    refine CW.skip ?_
    exact ⟨(), (by rw [show gapI (rels rs) n = 0 by rw [gapI, if_pos (by omega)]]; exact (by repeat (first | exact Fr.le.nil | refine Fr.le.cons rfl ?_))), rfl⟩
  rintro u w4 hj4
  obtain rfl := hj4
  have hgl : (gapI (rels rs) n) < rs.length := by rw [← hel]; exact gapI_lt hG (by omega) (by omega)
  obtain ⟨y0, hy0⟩ : ∃ y, rs[(gapI (rels rs) n)]? = some y := ⟨_, List.getElem?_eq_getElem hgl⟩
  have hye0 := hxe _ y0 hy0
  have hmy0 := hme _ y0 hy0
  have hkk := hR.kids y0 (List.mem_of_getElem? hy0) false
  obtain ⟨el0, lv0, rv0⟩ := y0
  obtain ⟨KA, km, kc, rfl⟩ : ∃ A m c, rv0 = .slice A m c := hkk.lens
  dsimp only at hye0
  obtain ⟨hkm0, _⟩ := int_map hkk
  have hkm0 : el0.right.length = km := hkm0
  have hgE : gapE (rels rs) n = ((gapAt (rels rs) (gapI (rels rs) n)).1, (gapAt (rels rs) (gapI (rels rs) n)).2, true) := by rw [gapE, if_neg (by rw [hlmS]; assumption)]
  refine CW.seq fun K10 hK10 => ?_
  refine CW.seq fun K11 hK11 => ?_
  refine CW.region ?_   -- region 7
  refine WL.val (Y.move rfl) (by decide) ?_   -- t29 := move t0
  refine WL.val (Y.nilCheck rfl) (by decide) ?_   -- t30 := nilCheck t29
  refine WL.val (Y.fieldAddr fo_recensionref08Tree1 rfl) (by decide) ?_   -- t31 := fieldAddr 55 t30 1
  refine WL.val (Y.load1 Try.underlying53 rfl ((hR.ext hE).blk.mem.recensionref08Tree1) rfl) (by decide) ?_   -- t32 := load 53 t31
  refine WL.val (Y.move rfl) (by decide) ?_   -- t33 := move t8
  refine WL.val (Y.indexAddrN Try.underlying53 rfl rfl sz0_recensionref08Elem (by omega)) (by decide) ?_   -- t34 := indexAddr 53 t32 t33
  refine WL.val (Y.fieldAddr fo_recensionref08Elem4 rfl) (by decide) ?_   -- t35 := fieldAddr 51 t34 4
  refine WL.val (Y.load1 Try.underlying43 rfl ((hmy0.ext hE).recensionref08Elem4) rfl) (by decide) ?_   -- t36 := load 43 t35
  refine WL.val (Y.len_slice Try.underlying43 rfl) (by decide) ?_   -- t37 := call len(t36) : 43
  refine WL.val (Y.eql rfl rfl) (by decide) ?_   -- t38 := binOp eql 3 t37 c(0:i64) 3
  refine WL.nil ?_
  refine hK11 _ _ ?_; try clear hK11 K11
  first | refine CW.condD rfl (fun ht12 => ?_) (fun ht12 => ?_) | refine CW.condND rfl (fun ht12 => ?_) (fun ht12 => ?_) | refine CW.condN rfl (fun ht12 => ?_) (fun ht12 => ?_) | refine CW.cond rfl (fun ht12 => ?_) (fun ht12 => ?_)
  · -- then
    refine CW.seq fun K13 hK13 => ?_
    refine CW.region ?_   -- region 8
    refine WL.val (Y.move rfl) (by decide) ?_   -- t39 := move t0
    refine WL.val (Y.nilCheck rfl) (by decide) ?_   -- t40 := nilCheck t39
    refine WL.val (Y.fieldAddr fo_recensionref08Tree1 rfl) (by decide) ?_   -- t41 := fieldAddr 55 t40 1
    refine WL.val (Y.load1 Try.underlying53 rfl ((hR.ext hE).blk.mem.recensionref08Tree1) rfl) (by decide) ?_   -- t42 := load 53 t41
    refine WL.val (Y.move rfl) (by decide) ?_   -- t43 := move t8
    refine WL.val (Y.indexAddrN Try.underlying53 rfl rfl sz0_recensionref08Elem (by omega)) (by decide) ?_   -- t44 := indexAddr 53 t42 t43
    refine WL.val (Y.fieldAddr fo_recensionref08Elem0 rfl) (by decide) ?_   -- t45 := fieldAddr 51 t44 0
    refine WL.val (Y.load Try.underlying49 rfl ((hmy0.ext hE).recensionref08Elem0) (sz_apiRef _) rfl) (by decide) ?_   -- t46 := load 49 t45
    refine WL.store (g := g4) (pre := []) (old := refC RefD.zero) (post := []) (new := refC el0.name) rfl rfl rfl rfl (sz_apiRef _) (by simpa using hB4) (by simp only [refC_length]) (one_refC) (fun w5 hc5 hB5_ => ?_)   -- _ := store 49 t4 t46
    have hz5 := hc5.size; have hE := hE.step hc5 (fun k h => by omega)
    have hB4 : Blk w5 g4 49 (refC el0.name) := by simpa using hB5_
    refine WL.val (Y.assign rfl) (by decide) ?_   -- t5 := assign c(false)
    refine WL.val (Y.assign rfl) (by decide) ?_   -- t6 := assign c(true)
    refine WL.nil ?_
    refine hK13 _ _ ?_; try clear hK13 K13
    refine CW.ret ?_
    exact ⟨_, _, _, rfl, hB4.mem, refC_length _, rfl, ⟨by rw [hgE, gapAt, hye0]; have h9 : el0.right = [] := List.length_eq_zero_iff.1 (by omega); simp only [Option.map_some, Option.getD_some, h9, nm_at hye0], hE⟩⟩
  -- else
  refine CW.skip ?_
  refine hK10 _ _ ?_; try clear hK10 K10
  refine CW.seq fun K14 hK14 => ?_
  obtain ⟨c0, r0, hrc⟩ : ∃ c r, el0.right = c :: r := by
    cases hr : el0.right with
    | nil => rw [hr] at hkm0; simp at hkm0; omega
    | cons c r => exact ⟨c, r, rfl⟩
  have hga : gapAt (rels rs) (gapI (rels rs) n) = (nm (rels rs) (lmE (rels rs) c0), true) := by rw [gapAt, hye0]; simp only [Option.map_some, Option.getD_some, hrc]
  have hfol := order_fol hG.down (a := (gapI (rels rs) n)) (c := c0) (r := r0) (by rw [hye0]; simp [hrc]) 0 (by omega)
  refine CW.region ?_   -- region 9
  refine WL.val (Y.move rfl) (by decide) ?_   -- t47 := move t0
  refine WL.call Try.func42 rfl rfl rfl (rorder_any g ad rs av _ _ (hR.ext hE) hG hn) (by simp) ?_; rintro v48 w6 hR6   -- t48 := call F42(t47) : 28
  obtain ⟨hOT, hfT, hxT⟩ := hR6
  have hzT := hxT.size
  obtain ⟨TA, Tm, Tc, rfl⟩ := hOT.lens
  obtain ⟨hlmT, hlgT⟩ := int_map hOT
  have hccT := (hOT.mem TA Tm Tc rfl).2.2.2
  unfold maxLen at hccT
  have hE := hE.thenExt hxT
  have hB4 := hB4.ext hxT
  refine WL.val (Y.assign rfl) (by decide) ?_   -- t9 := assign t48
  refine WL.nil ?_
  refine hK14 _ _ ?_; try clear hK14 K14
  refine CW.seq fun K15 hK15 => ?_
  refine CW.seq fun K16 hK16 => ?_
  refine CW.region ?_   -- region 10
  refine WL.val (Y.assign rfl) (by decide) ?_   -- t10 := assign c(0:i64)
  refine WL.nil ?_
  refine hK16 _ _ ?_; try clear hK16 K16
  refine CW.block ?_   -- block 0
  refine CW.loop (X := Nat) (fun x => [(0, .pointer (some ⟨g, 0, none⟩)), (4, .pointer (some ⟨g4, 0, none⟩)), (8, .int .i64 ((gapI (rels rs) n) : Int)), (9, .slice TA Tm Tc), (10, .int .i64 (x : Int))]) (fun x w0 => x ≤ Tm ∧ (∀ (t p : Nat), t < x → (orderE (rels rs))[t]? = some p → p ≠ (gapI (rels rs) n)) ∧ Ext w6 w0) (fun x => Tm - x) 0 (by repeat (first | exact Fr.le.nil | refine Fr.le.cons rfl ?_)) ⟨Nat.zero_le _, (fun t p h => by omega), Chg.refl⟩ ?_
  intro x w7 hl7
  obtain ⟨hkm, hno, hL⟩ := hl7
  have hE := hE.thenExt hL
  have hB4 := hB4.ext hL
  refine CW.seq fun K17 hK17 => ?_
  refine CW.seq fun K18 hK18 => ?_
  refine CW.region ?_   -- region 11
  refine WL.val (Y.move rfl) (by decide) ?_   -- t49 := move t10
  refine WL.val (Y.move rfl) (by decide) ?_   -- t50 := move t9
  refine WL.val (Y.len_slice Try.underlying43 rfl) (by decide) ?_   -- t51 := call len(t50) : 43
  refine WL.val (Y.lss rfl rfl) (by decide) ?_   -- t52 := binOp lss 3 t49 t51 3
  refine WL.nil ?_
  refine hK18 _ _ ?_; try clear hK18 K18
  first | refine CW.condD rfl (fun ht19 => ?_) (fun ht19 => ?_) | refine CW.condND rfl (fun ht19 => ?_) (fun ht19 => ?_) | refine CW.condN rfl (fun ht19 => ?_) (fun ht19 => ?_) | refine CW.cond rfl (fun ht19 => ?_) (fun ht19 => ?_)
  · -- then
    refine CW.skip ?_
    refine hK17 _ _ ?_; try clear hK17 K17
    refine CW.seq fun K20 hK20 => ?_
    refine CW.block ?_   -- block 1
    refine CW.seq fun K21 hK21 => ?_
    obtain ⟨q, hqk⟩ : ∃ q, (orderE (rels rs))[x]? = some q := ⟨_, List.getElem?_eq_getElem (by omega)⟩
    obtain ⟨oa, rfl, hmo⟩ := hlgT x q hqk
    have hql : q < rs.length := by have := hG.mem.1 (List.mem_of_getElem? hqk); omega
    obtain ⟨y, hy⟩ : ∃ y, rs[q]? = some y := ⟨_, List.getElem?_eq_getElem hql⟩
    have hye := hxe q y hy
    have hmy := hme q y hy
    refine CW.region ?_   -- region 13
    refine WL.val (Y.move rfl) (by decide) ?_   -- t55 := move t9
    refine WL.val (Y.move rfl) (by decide) ?_   -- t56 := move t10
    refine WL.val (Y.indexAddrN Try.underlying43 rfl rfl sz0_int (by omega)) (by decide) ?_   -- t57 := indexAddr 43 t55 t56
    refine WL.val (Y.load1 Try.underlying3 rfl ((hmo.ext hL).cell0) rfl) (by decide) ?_   -- t58 := load 3 t57
    refine WL.val (Y.move rfl) (by decide) ?_   -- t59 := move t8
    refine WL.val (Y.eql rfl rfl) (by decide) ?_   -- t60 := binOp eql 3 t58 t59 3
    refine WL.nil ?_
    refine hK21 _ _ ?_; try clear hK21 K21
    first | refine CW.condD rfl (fun ht22 => ?_) (fun ht22 => ?_) | refine CW.condND rfl (fun ht22 => ?_) (fun ht22 => ?_) | refine CW.condN rfl (fun ht22 => ?_) (fun ht22 => ?_) | refine CW.cond rfl (fun ht22 => ?_) (fun ht22 => ?_)
    · -- then
      refine CW.seq fun K23 hK23 => ?_
      have hqa : q = (gapI (rels rs) n) := by omega
      obtain ⟨zz, hzz⟩ := hfol ((orderE (rels rs)).take x) ((orderE (rels rs)).drop (x + 1)) (by rw [← hqa]; show (orderE (rels rs)) = _; have h9 := (List.getElem?_eq_some_iff.1 hqk); rw [← h9.2, ← List.drop_eq_getElem_cons, List.take_append_drop])
      have hlm1 : (orderE (rels rs))[x + 1]? = some (lmE (rels rs) c0) := by
        have h9 : ((orderE (rels rs)).drop (x + 1))[0]? = some (lmE (rels rs) c0) := by rw [hzz]; rfl
        rwa [List.getElem?_drop, Nat.add_zero] at h9
      have hx1l := (List.getElem?_eq_some_iff.1 hlm1).1
      obtain ⟨oa2, hoa2, hmo2⟩ := hlgT (x + 1) _ hlm1
      obtain rfl := Option.some.inj hoa2
      have hql2 : lmE (rels rs) c0 < rs.length := by have := hG.mem.1 (List.mem_of_getElem? hlm1); omega
      obtain ⟨y2, hy2⟩ : ∃ y, rs[lmE (rels rs) c0]? = some y := ⟨_, List.getElem?_eq_getElem hql2⟩
      have hye2 := hxe _ y2 hy2
      have hmy2 := hme _ y2 hy2
      refine CW.head 12 (by kernel_rfl) (by kernel_rfl) fun w8 hx8 => ?_   -- region 14
      skip; have hz8 := hx8.size; have hE := hE.thenExt hx8; have hB4 := hB4.ext hx8
      refine HL.val (Y.move rfl) (by decide) ?_   -- t61 := move t0
      refine HL.val (Y.nilCheck rfl) (by decide) ?_   -- t62 := nilCheck t61
      refine HL.val (Y.fieldAddr fo_recensionref08Tree1 rfl) (by decide) ?_   -- t63 := fieldAddr 55 t62 1
      refine HL.val (Y.load1 Try.underlying53 rfl ((hR.ext hE).blk.mem.recensionref08Tree1) rfl) (by decide) ?_   -- t64 := load 53 t63
      refine HL.val (Y.move rfl) (by decide) ?_   -- t65 := move t9
      refine HL.val (Y.move rfl) (by decide) ?_   -- t66 := move t10
      refine HL.val (Y.add rfl rfl ⟨by omega, by omega⟩) (by decide) ?_   -- t67 := binOp add 3 t66 c(1:i64) 3
      rw [show ((x : Int) + 1) = ((x + 1 : Nat) : Int) by omega]
      refine HL.val (Y.indexAddrN Try.underlying43 rfl rfl sz0_int (by omega)) (by decide) ?_   -- t68 := indexAddr 43 t65 t67
      refine HL.val (Y.load1 Try.underlying3 rfl ((hmo2.ext (hL.thenExt hx8)).cell0) rfl) (by decide) ?_   -- t69 := load 3 t68
      refine HL.val (Y.indexAddrN Try.underlying53 rfl rfl sz0_recensionref08Elem (by omega)) (by decide) ?_   -- t70 := indexAddr 53 t64 t69
      refine HL.val (Y.fieldAddr fo_recensionref08Elem0 rfl) (by decide) ?_   -- t71 := fieldAddr 51 t70 0
      refine HL.val (Y.load Try.underlying49 rfl ((hmy2.ext hE).recensionref08Elem0) (sz_apiRef _) rfl) (by decide) ?_   -- t72 := load 49 t71
      refine HL.nil ?_
      refine WL.store (g := g4) (pre := []) (old := refC RefD.zero) (post := []) (new := refC y2.el.name) rfl rfl rfl rfl (sz_apiRef _) (by simpa using hB4) (by simp only [refC_length]) (one_refC) (fun w9 hc9 hB9_ => ?_)   -- _ := store 49 t4 t72
      have hz9 := hc9.size; have hE := hE.step hc9 (fun k h => by omega)
      have hB4 : Blk w9 g4 49 (refC y2.el.name) := by simpa using hB9_
      refine WL.val (Y.assign rfl) (by decide) ?_   -- t5 := assign c(true)
      refine WL.val (Y.assign rfl) (by decide) ?_   -- t6 := assign c(true)
      refine WL.nil ?_
      refine hK23 _ _ ?_; try clear hK23 K23
      refine CW.ret ?_
      exact ⟨_, _, _, rfl, hB4.mem, refC_length _, rfl, ⟨by rw [hgE, hga, nm_at hye2], hE⟩⟩
    -- else
    refine CW.skip ?_
    refine hK20 _ _ ?_; try clear hK20 K20
    refine CW.region ?_   -- region 12
    refine WL.val (Y.move rfl) (by decide) ?_   -- t53 := move t10
    refine WL.val (Y.add rfl rfl ⟨by omega, by omega⟩) (by decide) ?_   -- t54 := binOp add 3 t53 c(1:i64) 3
    refine WL.val (Y.assign rfl) (by decide) ?_   -- t10 := assign t54
    refine WL.nil ?_
    exact ⟨x + 1, (by show Tm - (x + 1) < Tm - x; omega), (by repeat (first | exact Fr.le.nil | refine Fr.le.cons rfl ?_)), (by show x + 1 ≤ Tm; omega), (fun t p ht hp => by
      by_cases e : t = x
      · subst e; rw [hqk] at hp; cases hp; omega
      · exact hno t p (by omega) hp), hL⟩
  -- else
  refine CW.exit ?_   -- exit 0
  refine hK15 _ _ ?_; try clear hK15 K15
  refine CW.seq fun K24 hK24 => ?_
  exfalso
  obtain ⟨t, ht⟩ := List.mem_iff_getElem?.1 (hG.mem.2 (show (gapI (rels rs) n) < (rels rs).length by omega))
  exact hno t _ (by have := (List.getElem?_eq_some_iff.1 ht).1; omega) ht rfl

set_option maxRecDepth 100000 in
set_option maxHeartbeats 1000000 in
theorem rtext_any (g : Nat) (ad : List Dig) (rs : List Rn) (av ev_ : Value) (w : World) (hR : RtAt w g ad rs av ev_) (hG : Fu.Good (rels rs)) (hn : rs.length ≤ 400001) : Calls Try.prog 19 #[.pointer (some ⟨g, 0, none⟩)] w (Ret fun v w' => v = .string (bs (textE (rels rs))) ∧ Ext w w') := by
  obtain ⟨A, m, c, rfl⟩ := hR.es.lens
  have hsl := hR.sl
  have hel : (rels rs).length = rs.length := List.length_map _
  have hmm : rs.length = m ∧ m ≤ c ∧ c ≤ maxLen := by
    obtain ⟨A', m', c', e, h1, h2, h3, _⟩ := hsl
    injection e with e1 e2 e3
    exact ⟨by omega, by omega, by omega⟩
  unfold maxLen at hmm
  have hat : ∀ i x, rs[i]? = some x → ∃ a, A = some a ∧ Mem w (a.add (i * 38)) (rC x) := fun i x hx => hsl.get hx
  have hxe : ∀ (i : Nat) (x : Rn), rs[i]? = some x → (rels rs)[i]? = some x.el := fun i x hx => by rw [List.getElem?_map, hx]; rfl
  have hpos := hG.pos
  obtain ⟨x0, hx0⟩ : ∃ x, rs[0]? = some x := ⟨_, List.getElem?_eq_getElem (by omega)⟩
  obtain ⟨EA, hEA, _⟩ := hat 0 x0 hx0
  subst hEA
  have hme : ∀ i x, rs[i]? = some x → Mem w (EA.add (i * 38)) (rC x) := fun i x hx => by
    obtain ⟨a, ha, h⟩ := hat i x hx
    cases ha; exact h
  have hol : (orderE (rels rs)).length = rs.length := by
    have := hG.perm.length_eq
    rwa [List.length_range, hel] at this
  have hsn : (seenE (rels rs)).length ≤ 400001 := by
    have : (seenE (rels rs)).length ≤ (orderE (rels rs)).length := List.length_filter_le _ _
    omega
  obtain ⟨ir, hir, hzr, hsr⟩ := info_apiRef
  refine calls_of_CW 33 [2] [(0, .pointer (some ⟨g, 0, none⟩))] Try.func19 rfl rfl rfl (by simp) args1 ?_
  have hE : Ext w w := Chg.refl
  refine CW.seq fun K1 hK1 => ?_
  refine CW.region ?_   -- region 0
  refine WL.val (Y.assign rfl) (by decide) ?_   -- t2 := assign c(STR)
  refine WL.nil ?_
  refine hK1 _ _ ?_; try clear hK1 K1
  refine CW.seq fun K2 hK2 => ?_
  refine CW.region ?_   -- region 1
  refine WL.val (Y.move rfl) (by decide) ?_   -- t6 := move t0
  refine WL.call Try.func18 rfl rfl rfl (rseen_any g ad rs av _ _ (hR.ext hE) hG hn) (by simp) ?_; rintro v7 w1 hR1   -- t7 := call F18(t6) : 28
  obtain ⟨hOS, hfS, hxS⟩ := hR1
  have hzS := hxS.size
  obtain ⟨SA, Sm, Sc, rfl⟩ := hOS.lens
  obtain ⟨hlmS, hlgS⟩ := int_map hOS
  have hccS := (hOS.mem SA Sm Sc rfl).2.2.2
  unfold maxLen at hccS
  have hE := hE.thenExt hxS
  refine WL.val (Y.assign rfl) (by decide) ?_   -- t3 := assign t7
  refine WL.nil ?_
  refine hK2 _ _ ?_; try clear hK2 K2
  refine CW.seq fun K3 hK3 => ?_
  refine CW.region ?_   -- region 2
  refine WL.val (Y.move rfl) (by decide) ?_   -- t8 := move t3
  refine WL.val (Y.len_slice Try.underlying43 rfl) (by decide) ?_   -- t9 := call len(t8) : 43
  refine WL.st (St.makeK (m := Sm) Try.underlying92 mi_u8 rfl rfl (by omega) (by omega)) (by decide) fun v10 w2 hR2 => ?_   -- t10 := makeSlice 92 t9 t9
  obtain ⟨bg, rfl, hbg, hBb, hx2⟩ := hR2
  have hz2 := hx2.size
  rw [rep_bytes] at hBb
  have hE := hE.thenExt hx2
  refine WL.val (Y.assign rfl) (by decide) ?_   -- t4 := assign t10
  refine WL.nil ?_
  refine hK3 _ _ ?_; try clear hK3 K3
  refine CW.seq fun K4 hK4 => ?_
  refine CW.seq fun K5 hK5 => ?_
  refine CW.region ?_   -- region 3
  refine WL.val (Y.assign rfl) (by decide) ?_   -- t5 := assign c(0:i64)
  refine WL.nil ?_
  refine hK5 _ _ ?_; try clear hK5 K5
  refine CW.block ?_   -- block 0
  refine CW.loop (X := Nat) (fun x => [(0, .pointer (some ⟨g, 0, none⟩)), (3, .slice SA Sm Sc), (4, .slice (some ⟨bg, 0, none⟩) Sm Sm), (5, .int .i64 (x : Int))]) (fun x w0 => x ≤ Sm ∧ Blk w0 bg 5 (bytesC (((seenE (rels rs)).take x).map (byteAt (rels rs)) ++ List.replicate (Sm - x) 0)) ∧ Ext w1 w0) (fun x => Sm - x) 0 (by repeat (first | exact Fr.le.nil | refine Fr.le.cons rfl ?_)) ⟨Nat.zero_le _, (by simpa using hBb), hx2⟩ ?_
  intro x w3 hl3
  obtain ⟨hkm, hBb, hL⟩ := hl3
  have hE := hxS.thenExt hL
  have hzL := hL.size
  refine CW.seq fun K6 hK6 => ?_
  refine CW.seq fun K7 hK7 => ?_
  refine CW.region ?_   -- region 4
  refine WL.val (Y.move rfl) (by decide) ?_   -- t11 := move t5
  refine WL.val (Y.move rfl) (by decide) ?_   -- t12 := move t3
  refine WL.val (Y.len_slice Try.underlying43 rfl) (by decide) ?_   -- t13 := call len(t12) : 43
  refine WL.val (Y.lss rfl rfl) (by decide) ?_   -- t14 := binOp lss 3 t11 t13 3
  refine WL.nil ?_
  refine hK7 _ _ ?_; try clear hK7 K7
  first | refine CW.condD rfl (fun ht8 => ?_) (fun ht8 => ?_) | refine CW.condND rfl (fun ht8 => ?_) (fun ht8 => ?_) | refine CW.condN rfl (fun ht8 => ?_) (fun ht8 => ?_) | refine CW.cond rfl (fun ht8 => ?_) (fun ht8 => ?_)
  · -- then
    refine CW.skip ?_
    refine hK6 _ _ ?_; try clear hK6 K6
    refine CW.seq fun K9 hK9 => ?_
    refine CW.block ?_   -- block 1
    obtain ⟨q, hqk⟩ : ∃ q, (seenE (rels rs))[x]? = some q := ⟨_, List.getElem?_eq_getElem (by omega)⟩
    obtain ⟨oa, rfl, hmo⟩ := hlgS x q hqk
    have hql : q < rs.length := by have := seen_lt hG.down (List.mem_of_getElem? hqk); omega
    obtain ⟨y, hy⟩ : ∃ y, rs[q]? = some y := ⟨_, List.getElem?_eq_getElem hql⟩
    have hye := hxe q y hy
    have hmy := hme q y hy
    have hsm : Sm - x = (Sm - (x + 1)) + 1 := by omega
    have htl : ((seenE (rels rs)).take x).length = x := by rw [List.length_take]; omega
    refine CW.head 14 (by kernel_rfl) (by kernel_rfl) fun w4 hx4 => ?_   -- region 6
    skip; have hz4 := hx4.size; have hE := hE.thenExt hx4
    refine HL.val (Y.move rfl) (by decide) ?_   -- t17 := move t4
    refine HL.val (Y.move rfl) (by decide) ?_   -- t18 := move t5
    refine HL.val (Y.move rfl) (by decide) ?_   -- t19 := move t0
    refine HL.val (Y.nilCheck rfl) (by decide) ?_   -- t20 := nilCheck t19
    refine HL.val (Y.fieldAddr fo_recensionref08Tree1 rfl) (by decide) ?_   -- t21 := fieldAddr 55 t20 1
    refine HL.val (Y.load1 Try.underlying53 rfl ((hR.ext hE).blk.mem.recensionref08Tree1) rfl) (by decide) ?_   -- t22 := load 53 t21
    refine HL.val (Y.move rfl) (by decide) ?_   -- t23 := move t3
    refine HL.val (Y.move rfl) (by decide) ?_   -- t24 := move t5
    refine HL.val (Y.indexAddrN Try.underlying43 rfl rfl sz0_int (by omega)) (by decide) ?_   -- t25 := indexAddr 43 t23 t24
    refine HL.val (Y.load1 Try.underlying3 rfl ((hmo.ext (hL.thenExt hx4)).cell0) rfl) (by decide) ?_   -- t26 := load 3 t25
    refine HL.val (Y.indexAddrN Try.underlying53 rfl rfl sz0_recensionref08Elem (by omega)) (by decide) ?_   -- t27 := indexAddr 53 t22 t26
    refine HL.val (Y.fieldAddr fo_recensionref08Elem1 rfl) (by decide) ?_   -- t28 := fieldAddr 51 t27 1
    refine HL.val (Y.load1 Try.underlying5 rfl ((hmy.ext hE).recensionref08Elem1) rfl) (by decide) ?_   -- t29 := load 5 t28
    refine HL.val (Y.indexAddrN Try.underlying92 rfl rfl sz0_uint8 (by omega)) (by decide) ?_   -- t30 := indexAddr 92 t17 t18
    refine HL.nil ?_
    refine WL.store (g := bg) (pre := bytesC (((seenE (rels rs)).take x).map (byteAt (rels rs)))) (old := [bc 0]) (post := bytesC (List.replicate (Sm - (x + 1)) 0)) (new := [.int .u8 (y.el.byte.toNat : Int)]) rfl (by rw [Nat.mul_one, add_zero', bytesC_length, List.length_map, htl]) rfl rfl (by kernel_rfl) (by have h9 := hBb.ext hx4; rw [hsm, List.replicate_succ, bytesC_append] at h9; simpa [bytesC] using h9) (by first | rfl | (simp [digC_length, opC_length]; done) | (simp only [digC_length, opC_length]; omega)) (one1 rfl) (fun w5 hc5 hB5_ => ?_)   -- _ := store 5 t30 t29
    have hz5 := hc5.size; have hE := hE.step hc5 (fun k h => by omega)
    have hL5 : Ext w1 w5 := (hL.thenExt hx4).step hc5 (fun k h => by omega)
    have hBb5 : Blk w5 bg 5 (bytesC (((seenE (rels rs)).take (x + 1)).map (byteAt (rels rs)) ++ List.replicate (Sm - (x + 1)) 0)) := by
      rw [Go.Pl.take_succ hqk, List.map_append, List.map_singleton, byteAt_at hye, bytesC_append, bytesC_append]
      simpa [bytesC, bc] using hB5_
    refine WL.nil ?_
    refine hK9 _ _ ?_; try clear hK9 K9
    refine CW.region ?_   -- region 5
    refine WL.val (Y.move rfl) (by decide) ?_   -- t15 := move t5
    refine WL.val (Y.add rfl rfl ⟨by omega, by omega⟩) (by decide) ?_   -- t16 := binOp add 3 t15 c(1:i64) 3
    refine WL.val (Y.assign rfl) (by decide) ?_   -- t5 := assign t16
    refine WL.nil ?_
    exact ⟨x + 1, (by show Sm - (x + 1) < Sm - x; omega), (by repeat (first | exact Fr.le.nil | refine Fr.le.cons rfl ?_)), (by show x + 1 ≤ Sm; omega), hBb5, hL5⟩
  -- else
  refine CW.exit ?_   -- exit 0
  refine hK4 _ _ ?_; try clear hK4 K4
  refine CW.seq fun K10 hK10 => ?_
  have hxe2 : x = Sm := by omega
  subst hxe2
  rw [Nat.sub_self, List.replicate_zero, List.append_nil, List.take_of_length_le (by omega)] at hBb
  refine CW.region ?_   -- region 7
  refine WL.val (Y.move rfl) (by decide) ?_   -- t31 := move t4
  refine WL.val (Y.bytes_string Try.underlying92 Try.underlying5 Try.underlying9 rfl (l := textE (rels rs)) (by rw [textE, List.length_map]; exact hlmS) (fun _ => ⟨_, rfl, hBb.mem⟩) (fun h => by cases h)) (by decide) ?_   -- t32 := convert 92 9 t31
  refine WL.val (Y.assign rfl) (by decide) ?_   -- t2 := assign t32
  refine WL.nil ?_
  refine hK10 _ _ ?_; try clear hK10 K10
  refine CW.ret ⟨_, rfl, ?_⟩
  exact ⟨rfl, hE⟩
end Go.Proofs.Ytffkmlkdlhkkmaa
