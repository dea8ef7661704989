/- sorted, GraphAnyOrder: the law's functions, walked. No condition. -/
import Derived.Test.YtecolkngbcgmcaaGv
set_option linter.unusedSimpArgs false
set_option linter.unusedVariables false
namespace Go.Proofs.Ytecolkngbcgmcaa
open Go.RowKit Go.Fw Go.Pl Go.Sort
theorem ai_nd : AppInfo Try.prog TNo 33 56 := by
  have h : (Try.prog.info? TNo).map (fun i => (i.size, i.bytes, i.zero)) = some (33, 56, some (ndV NdV.zero)) := by kernel_rfl
  obtain ⟨i, hi, h⟩ := Option.map_eq_some_iff.1 h
  injection h with h1 h2
  injection h2 with h2 h3
  exact ⟨i, _, hi, h3, h1, by show (ndC NdV.zero).toArray.size = 33; simp [ndC_length], h2, by decide, by decide⟩
theorem bs1_nd (x : NdV) (w : World) : (Instr.buildSlice TSn 1 [(0, ndV x)].toArray).run Try.prog w = .ok (.slice (some ⟨w.heap.size, 0, none⟩) 1 1) (w.alloc (.cells (ndC x).toArray TNo)) := by
  obtain ⟨i, z, hi, hz, hk, _⟩ := ai_nd
  exact run_bs1 Try.underlying22 hi hz (by omega) (by omega) rfl (by rw [ndC_length, hk]) w
abbrev flatN (l : List NdV) : List Value := (l.map ndC).flatten
def nodeAt (l : List NdV) (d : Dig) : NdV := (l[ixN (ndsL l) d]?).getD NdV.zero
theorem nodeAt_is {l : List NdV} {d : Dig} (h : d ∈ idsL (ndsL l)) : ∃ y, l[ixN (ndsL l) d]? = some y ∧ nodeAt l d = y ∧ y.n.id = d := by
  obtain ⟨n, hn, e⟩ := at_ixN h
  have hlt := ixN_lt h
  simp only [List.length_map] at hlt
  refine ⟨l[ixN (ndsL l) d], List.getElem?_eq_getElem hlt, by rw [nodeAt, List.getElem?_eq_getElem hlt]; rfl, ?_⟩
  rw [List.getElem?_map, List.getElem?_eq_getElem hlt] at hn
  simp at hn
  rw [hn]; exact e
theorem sorted_len {l : List Nd} (h : (readE l).2 = 0) : (ordL l (idsL l)).length = l.length := by
  have hin : ∀ d ∈ idsL l, d ∈ idsL l := fun d hd => hd
  obtain ⟨hc, hall⟩ := ordL_came h hin
  have h1 := nodup_le hc.once fun d hd => under_ids h hin ((above_mem h hin).1 (hc.isin d hd))
  have hn : (idsL l).Nodup := by
    rw [List.Nodup, List.pairwise_iff_getElem]
    intro i j hi hj hij e
    simp only [List.length_map] at hi hj
    have h2 := ixN_at h (i := i) (List.getElem?_eq_getElem hi)
    have h3 := ixN_at h (i := j) (List.getElem?_eq_getElem hj)
    simp only [List.getElem_map] at e
    rw [e] at h2
    omega
  have h2 := nodup_le hn fun d hd => hall d ((above_mem h hin).2 ⟨d, hd, .refl _⟩)
  simp only [List.length_map] at h1 h2
  omega

set_option maxHeartbeats 1000000 in
theorem sortedL_any (u : Value) (l : List NdV) (w : World) (hl : Nds w u l) (hok : (readE (ndsL l)).2 = 0) : Calls Try.prog 32 #[u] w (Ret fun v w' => ∃ mv m, v = .tuple #[mv, .bool true] ∧ Nds w' mv m ∧ idsL (ndsL m) = ordL (ndsL l) (idsL (ndsL l)) ∧ (∀ x ∈ ndsL m, x ∈ ndsL l) ∧ Ext w w') := by
  obtain ⟨A, c, rfl, hmc, hcm⟩ := hl.sl.lens
  unfold maxLen at hcm
  have hnl : (ndsL l).length = l.length := by simp
  have hln := ok_len hok
  refine calls_of_CW 62 [2, 3] [(0, .slice A l.length c)] Try.func32 rfl rfl rfl (by simp) args1 ?_
  have hE : Ext w w := Chg.refl
  refine CW.seq fun K1 hK1 => ?_
  refine CW.region ?_   -- region 0
  refine WL.val (Y.assign rfl) (by decide) ?_   -- t2 := assign c(nilslice)
  refine WL.val (Y.assign rfl) (by decide) ?_   -- t3 := assign c(false)
  refine WL.nil ?_
  refine hK1 _ _ ?_; try clear hK1 K1
  refine CW.seq fun K2 hK2 => ?_
  refine CW.region ?_   -- region 1
  refine WL.val (Y.assign rfl) (by decide) ?_   -- t4 := assign c(nilslice)
  refine WL.nil ?_
  refine hK2 _ _ ?_; try clear hK2 K2
  refine CW.seq fun K3 hK3 => ?_
  refine CW.seq fun K4 hK4 => ?_
  refine CW.region ?_   -- region 2
  refine WL.val (Y.assign rfl) (by decide) ?_   -- t5 := assign c(0:i64)
  refine WL.nil ?_
  refine hK4 _ _ ?_; try clear hK4 K4
  refine CW.block ?_   -- block 0
  refine CW.loop (X := Nat × Value) (fun x => [(0, .slice A l.length c), (4, x.2), (5, .int .i64 (x.1 : Int))]) (fun x w0 => x.1 ≤ l.length ∧ Own w0 TDg 32 x.2 (flatD ((idsL (ndsL l)).take x.1)) ∧ (∀ k, x.2.ownBlock = some k → w.heap.size ≤ k) ∧ Ext w w0) (fun x => l.length - x.1) (0, .slice none 0 0) (by repeat (first | exact Fr.le.nil | refine Fr.le.cons rfl ?_)) ⟨Nat.zero_le _, by simpa [flatD] using Own.nil, (fun k h => by simp [Value.ownBlock] at h), hE⟩ ?_
  intro x w1 hl1
  clear hE
  obtain ⟨i, v⟩ := x
  dsimp only at hl1 ⊢
  obtain ⟨hil, hO, hfu, hE⟩ := hl1
  have hol : ((idsL (ndsL l)).take i).length ≤ i := by rw [List.length_take]; omega
  obtain ⟨B, mb, cb, rfl⟩ := hO.lens
  have hlo := hO.lt
  have hzE := hE.size
  refine CW.seq fun K5 hK5 => ?_
  refine CW.seq fun K6 hK6 => ?_
  refine CW.region ?_   -- region 3
  refine WL.val (Y.move rfl) (by decide) ?_   -- t11 := move t5
  refine WL.val (Y.move rfl) (by decide) ?_   -- t12 := move t0
  refine WL.val (Y.len_slice Try.underlying22 rfl) (by decide) ?_   -- t13 := call len(t12) : 22
  refine WL.val (Y.lss rfl rfl) (by decide) ?_   -- t14 := binOp lss 3 t11 t13 3
  refine WL.nil ?_
  refine hK6 _ _ ?_; try clear hK6 K6
  first | refine CW.condD rfl (fun ht7 => ?_) (fun ht7 => ?_) | refine CW.condND rfl (fun ht7 => ?_) (fun ht7 => ?_) | refine CW.condN rfl (fun ht7 => ?_) (fun ht7 => ?_) | refine CW.cond rfl (fun ht7 => ?_) (fun ht7 => ?_)
  · -- then
    refine CW.skip ?_
    refine hK5 _ _ ?_; try clear hK5 K5
    refine CW.seq fun K8 hK8 => ?_
    refine CW.block ?_   -- block 1
    obtain ⟨y, hy⟩ : ∃ y, l[i]? = some y := ⟨_, List.getElem?_eq_getElem (by omega)⟩
    obtain ⟨⟨id, ps⟩, Ay, cy⟩ := y
    have hyn : (ndsL l)[i]? = some ⟨id, ps⟩ := by simp [hy]
    have hids := ids_at hyn
    obtain ⟨a, rfl, hma⟩ := hl.sl.at hy
    refine CW.region ?_   -- region 5
    refine WL.val (Y.move rfl) (by decide) ?_   -- t17 := move t4
    refine WL.val (Y.move rfl) (by decide) ?_   -- t18 := move t0
    refine WL.val (Y.move rfl) (by decide) ?_   -- t19 := move t5
    refine WL.val (Y.indexAddrN Try.underlying22 rfl rfl sz0_apiNode (by omega)) (by decide) ?_   -- t20 := indexAddr 22 t18 t19
    refine WL.val (Y.fieldAddr fo_apiNode0 rfl) (by decide) ?_   -- t21 := fieldAddr 48 t20 0
    refine WL.val (Y.load Try.underlying45 rfl (hma.ext hE).node0 (sz_apiDigest _) rfl) (by decide) ?_   -- t22 := load 45 t21
    refine WL.st (St.buildSlice rfl (bs1_dig _)) (by decide) fun v23 w2 hR2 => ?_   -- t23 := buildSlice 23 1 [(0,t22)]
    obtain ⟨gg, rfl, hgg, hBg, hx2⟩ := hR2
    have hz2 := hx2.size
    have hE := hE.thenExt hx2
    refine WL.st (St.append Try.underlying23 Try.underlying23 ai_dig rfl rfl (hO.ext hx2) (Src.one hBg (digC_length _)) one_digC (by rw [flat_length digC_length]; omega)) (by decide) fun v24 w3 hR3 => ?_   -- t24 := call append(t17, t23) : 23,23
    obtain ⟨hO3, hc3, hf3⟩ := hR3
    have hz3 := hc3.size
    have hE := hE.step hc3 (fun k h => by have := hfu k h; omega)
    have hf3 : ∀ k, v24.ownBlock = some k → w.heap.size ≤ k := by
      rcases hf3 with h | h
      · intro k hk; rw [h] at hk; exact hfu k hk
      · intro k hk; have := h k hk; omega
    refine WL.val (Y.assign rfl) (by decide) ?_   -- t4 := assign t24
    refine WL.nil ?_
    refine hK8 _ _ ?_; try clear hK8 K8
    refine CW.region ?_   -- region 4
    refine WL.val (Y.move rfl) (by decide) ?_   -- t15 := move t5
    refine WL.val (Y.add rfl rfl ⟨by omega, by omega⟩) (by decide) ?_   -- t16 := binOp add 3 t15 c(1:i64) 3
    refine WL.val (Y.assign rfl) (by decide) ?_   -- t5 := assign t16
    refine WL.nil ?_
    exact ⟨(i + 1, v24), by show l.length - (i + 1) < l.length - i; omega, (by repeat (first | exact Fr.le.nil | refine Fr.le.cons rfl ?_)), by show i + 1 ≤ l.length; omega, by show Own _ _ _ _ (flatD ((idsL (ndsL l)).take (i + 1))); rw [take_succ hids, flatD_app]; simpa [flatD] using hO3, hf3, hE⟩
  -- else
  refine CW.exit ?_   -- exit 0
  refine hK3 _ _ ?_; try clear hK3 K3
  refine CW.seq fun K9 hK9 => ?_
  refine CW.region ?_   -- region 6
  refine WL.val (Y.move rfl) (by decide) ?_   -- t26 := move t0
  refine WL.val (Y.move rfl) (by decide) ?_   -- t27 := move t4
  refine WL.call Try.func22 rfl rfl rfl (gOrder_any _ _ l (idsL (ndsL l)) _ (hl.ext hE) ((by rw [List.take_of_length_le (by simp; omega)] at hO; exact hO : Own _ TDg 32 _ (flatD (idsL (ndsL l)))).sl digC_length (by decide))) (by simp) ?_; rintro v28 w4 hR4   -- t28 := call F22(t26, t27) : 22,23
  obtain ⟨hv, rfl, hO4, hf4, hx4⟩ := hR4
  have hz4 := hx4.size
  have hE := hE.thenExt hx4
  have hin : ∀ d ∈ (idsL (ndsL l)), d ∈ (idsL (ndsL l)) := fun d h => h
  have hq : wrongQ (ndsL l) (idsL (ndsL l)) = 0 := wrongQ_zero hok hin
  rw [hq, if_pos rfl, order_marks hok hin] at hO4
  rw [hq]
  obtain ⟨o, ho⟩ : ∃ o, o = ordL (ndsL l) (idsL (ndsL l)) := ⟨_, rfl⟩
  have hol4 : o.length = l.length := by rw [ho, sorted_len hok, hnl]
  have hoi : ∀ d ∈ o, d ∈ (idsL (ndsL l)) := fun d hd => by
    rw [ho] at hd
    exact under_ids hok hin ((ordL_mem hok hin).1 hd)
  rw [← ho] at hO4
  obtain ⟨AO, mO, cO, rfl⟩ := hO4.lens
  have hSO := hO4.sl digC_length (by decide)
  have hltO := hO4.lt
  have hlO := (hO4.len digC_length (by decide)).1
  subst hlO
  refine WL.val (Y.move rfl) (by decide) ?_   -- t25 := move t28
  refine WL.val (Y.extract rfl rfl) (by decide) ?_   -- t29 := extract t25 0
  refine WL.val (Y.extract rfl rfl) (by decide) ?_   -- t30 := extract t25 1
  refine WL.val (Y.assign rfl) (by decide) ?_   -- t6 := assign t29
  refine WL.val (Y.assign rfl) (by decide) ?_   -- t7 := assign t30
  refine WL.nil ?_
  refine hK9 _ _ ?_; try clear hK9 K9
  refine CW.seq fun K10 hK10 => ?_
  refine CW.region ?_   -- region 7
  refine WL.val (Y.assign rfl) (by decide) ?_   -- t8 := assign c(nilslice)
  refine WL.nil ?_
  refine hK10 _ _ ?_; try clear hK10 K10
  refine CW.seq fun K11 hK11 => ?_
  refine CW.seq fun K12 hK12 => ?_
  refine CW.region ?_   -- region 8
  refine WL.val (Y.assign rfl) (by decide) ?_   -- t9 := assign c(0:i64)
  refine WL.nil ?_
  refine hK12 _ _ ?_; try clear hK12 K12
  refine CW.block ?_   -- block 2
  refine CW.loop (X := Nat × Value) (fun x => [(0, .slice A l.length c), (6, .slice AO o.length cO), (7, .int .i64 0), (8, x.2), (9, .int .i64 (x.1 : Int))]) (fun x w0 => x.1 ≤ o.length ∧ Own w0 TNo 33 x.2 (flatN ((o.take x.1).map (nodeAt l))) ∧ (∀ k, x.2.ownBlock = some k → w4.heap.size ≤ k) ∧ Sl w0 digC 32 (.slice AO o.length cO) o ∧ Ext w w0 ∧ w4.heap.size ≤ w0.heap.size) (fun x => o.length - x.1) (0, .slice none 0 0) (by repeat (first | exact Fr.le.nil | refine Fr.le.cons rfl ?_)) ⟨Nat.zero_le _, by simpa [flatN] using Own.nil, (fun k h => by simp [Value.ownBlock] at h), hSO, hE, Nat.le_refl _⟩ ?_
  intro x w5 hl5
  clear hE hSO hO
  obtain ⟨i, v⟩ := x
  dsimp only at hl5 ⊢
  obtain ⟨hil, hO, hfu, hSO, hE, hz5⟩ := hl5
  have hol : (o.take i).length ≤ i := by rw [List.length_take]; omega
  obtain ⟨B, mb, cb, rfl⟩ := hO.lens
  have hlo := hO.lt
  have hzE := hE.size
  refine CW.seq fun K13 hK13 => ?_
  refine CW.seq fun K14 hK14 => ?_
  refine CW.region ?_   -- region 9
  refine WL.val (Y.move rfl) (by decide) ?_   -- t31 := move t9
  refine WL.val (Y.move rfl) (by decide) ?_   -- t32 := move t6
  refine WL.val (Y.len_slice Try.underlying23 rfl) (by decide) ?_   -- t33 := call len(t32) : 23
  refine WL.val (Y.lss rfl rfl) (by decide) ?_   -- t34 := binOp lss 3 t31 t33 3
  refine WL.nil ?_
  refine hK14 _ _ ?_; try clear hK14 K14
  first | refine CW.condD rfl (fun ht15 => ?_) (fun ht15 => ?_) | refine CW.condND rfl (fun ht15 => ?_) (fun ht15 => ?_) | refine CW.condN rfl (fun ht15 => ?_) (fun ht15 => ?_) | refine CW.cond rfl (fun ht15 => ?_) (fun ht15 => ?_)
  · -- then
    refine CW.skip ?_
    refine hK13 _ _ ?_; try clear hK13 K13
    refine CW.seq fun K16 hK16 => ?_
    refine CW.block ?_   -- block 3
    refine CW.seq fun K17 hK17 => ?_
    obtain ⟨d, hd⟩ : ∃ d, o[i]? = some d := ⟨_, List.getElem?_eq_getElem (by omega)⟩
    obtain ⟨aO, rfl, hmd⟩ := hSO.at hd
    have hdi := hoi d (List.mem_of_getElem? hd)
    have hix := ixN_lt hdi
    obtain ⟨y, hy, hyn, _⟩ := nodeAt_is hdi
    obtain ⟨a, rfl, hma⟩ := hl.sl.at hy
    refine CW.region ?_   -- region 11
    refine WL.val (Y.move rfl) (by decide) ?_   -- t37 := move t0
    refine WL.val (Y.move rfl) (by decide) ?_   -- t38 := move t6
    refine WL.val (Y.move rfl) (by decide) ?_   -- t39 := move t9
    refine WL.val (Y.indexAddrN Try.underlying23 rfl rfl sz0_apiDigest (by omega)) (by decide) ?_   -- t40 := indexAddr 23 t38 t39
    refine WL.val (Y.load Try.underlying45 rfl hmd (sz_apiDigest _) rfl) (by decide) ?_   -- t41 := load 45 t40
    refine WL.call Try.func26 rfl rfl rfl (rFindIn_any _ l d _ (hl.ext hE) hdi) (by simp) ?_; rintro v w6 ⟨rfl, hx6⟩; have hz6 := hx6.size; have hE := hE.thenExt hx6   -- t42 := call F26(t37, t41) : 22,45
    refine WL.val (Y.assign rfl) (by decide) ?_   -- t10 := assign t42
    refine WL.nil ?_
    refine hK17 _ _ ?_; try clear hK17 K17
    refine CW.seq fun K18 hK18 => ?_
    refine CW.seq fun K19 hK19 => ?_
    refine CW.region ?_   -- region 12
    refine WL.val (Y.move rfl) (by decide) ?_   -- t43 := move t10
    refine WL.val (Y.lss rfl rfl) (by decide) ?_   -- t44 := binOp lss 3 t43 c(0:i64) 3
    refine WL.nil ?_
    refine hK19 _ _ ?_; try clear hK19 K19
    first | refine CW.condD rfl (fun ht20 => ?_) (fun ht20 => ?_) | refine CW.condND rfl (fun ht20 => ?_) (fun ht20 => ?_) | refine CW.condN rfl (fun ht20 => ?_) (fun ht20 => ?_) | refine CW.cond rfl (fun ht20 => ?_) (fun ht20 => ?_)
    · -- then
      refine CW.seq fun K21 hK21 => ?_
      refine CW.region ?_   -- region 13
      refine WL.val (Y.assign rfl) (by decide) ?_   -- t2 := assign c(nilslice)
      refine WL.val (Y.assign rfl) (by decide) ?_   -- t3 := assign c(false)
      refine WL.nil ?_
      refine hK21 _ _ ?_; try clear hK21 K21
      refine CW.ret ⟨_, rfl, ?_⟩
      exfalso
      omega
    -- else
    refine CW.skip ?_
    refine hK18 _ _ ?_; try clear hK18 K18
    refine CW.region ?_   -- region 14
    refine WL.val (Y.move rfl) (by decide) ?_   -- t45 := move t8
    refine WL.val (Y.move rfl) (by decide) ?_   -- t46 := move t0
    refine WL.val (Y.move rfl) (by decide) ?_   -- t47 := move t10
    refine WL.val (Y.indexAddrN Try.underlying22 rfl rfl sz0_apiNode (by omega)) (by decide) ?_   -- t48 := indexAddr 22 t46 t47
    refine WL.val (Y.load Try.underlying48 rfl (hma.ext hE) (sz_apiNode _) rfl) (by decide) ?_   -- t49 := load 48 t48
    refine WL.st (St.buildSlice rfl (bs1_nd _)) (by decide) fun v50 w7 hR7 => ?_   -- t50 := buildSlice 22 1 [(0,t49)]
    obtain ⟨gg, rfl, hgg, hBg, hx7⟩ := hR7
    have hz7 := hx7.size
    have hE := hE.thenExt hx7
    refine WL.st (St.append Try.underlying22 Try.underlying22 ai_nd rfl rfl ((hO.ext hx6).ext hx7) (Src.one hBg (ndC_length _)) one_ndC (by rw [flat_length ndC_length, List.length_map]; omega)) (by decide) fun v51 w8 hR8 => ?_   -- t51 := call append(t45, t50) : 22,22
    obtain ⟨hO8, hc8, hf8⟩ := hR8
    have hz8 := hc8.size
    have hE := hE.step hc8 (fun k h => by have := hfu k h; omega)
    have hf8 : ∀ k, v51.ownBlock = some k → w4.heap.size ≤ k := by
      rcases hf8 with h | h
      · intro k hk; rw [h] at hk; exact hfu k hk
      · intro k hk; have := h k hk; omega
    have hSO := ((hSO.ext hx6).ext hx7).chg hc8 (fun k hk h => by have := hfu k h; have := hltO k hk; omega)
    refine WL.val (Y.assign rfl) (by decide) ?_   -- t8 := assign t51
    refine WL.nil ?_
    refine hK16 _ _ ?_; try clear hK16 K16
    refine CW.region ?_   -- region 10
    refine WL.val (Y.move rfl) (by decide) ?_   -- t35 := move t9
    refine WL.val (Y.add rfl rfl ⟨by omega, by omega⟩) (by decide) ?_   -- t36 := binOp add 3 t35 c(1:i64) 3
    refine WL.val (Y.assign rfl) (by decide) ?_   -- t9 := assign t36
    refine WL.nil ?_
    exact ⟨(i + 1, v51), by show o.length - (i + 1) < o.length - i; omega, (by repeat (first | exact Fr.le.nil | refine Fr.le.cons rfl ?_)), by show i + 1 ≤ o.length; omega, by show Own _ _ _ _ (flatN ((o.take (i + 1)).map (nodeAt l))); rw [take_succ hd, List.map_append, List.map_cons, List.map_nil, hyn]; simpa [flatN] using hO8, hf8, hSO, hE, by omega⟩
  -- else
  refine CW.exit ?_   -- exit 2
  refine hK11 _ _ ?_; try clear hK11 K11
  refine CW.seq fun K22 hK22 => ?_
  refine CW.region ?_   -- region 15
  refine WL.val (Y.move rfl) (by decide) ?_   -- t52 := move t8
  refine WL.val (Y.move rfl) (by decide) ?_   -- t53 := move t7
  refine WL.val (Y.eql rfl rfl) (by decide) ?_   -- t54 := binOp eql 24 t53 c(0:i64) 24
  refine WL.val (Y.move rfl) (by decide) ?_   -- t55 := move t54
  refine WL.know (d := 55) (u := .bool true) rfl (by rfl) ?_
  refine WL.gval rfl rfl (Y.move rfl) (by decide) ?_   -- t56 := move t8 [if 3=true]
  refine WL.gval rfl rfl (Y.len_slice Try.underlying22 rfl) (by decide) ?_   -- t57 := call len(t56) : 22 [if 3=true]
  refine WL.gval rfl rfl (Y.move rfl) (by decide) ?_   -- t58 := move t0 [if 3=true]
  refine WL.gval rfl rfl (Y.len_slice Try.underlying22 rfl) (by decide) ?_   -- t59 := call len(t58) : 22 [if 3=true]
  refine WL.gval rfl rfl (Y.eql rfl rfl) (by decide) ?_   -- t60 := binOp eql 3 t57 t59 3 [if 3=true]
  refine WL.val (Y.pick rfl rfl) (by decide) ?_   -- t61 := pick t55 t60 c(false)
  refine WL.val (Y.assign rfl) (by decide) ?_   -- t2 := assign t52
  refine WL.val (Y.assign rfl) (by decide) ?_   -- t3 := assign t61
  refine WL.nil ?_
  refine hK22 _ _ ?_; try clear hK22 K22
  refine CW.ret ⟨_, rfl, ?_⟩
  have hi : i = o.length := by omega
  subst hi
  rw [List.take_length] at hO
  have hmb := (hO.len ndC_length (by decide)).1
  rw [List.length_map] at hmb
  refine ⟨_, o.map (nodeAt l), by rw [decide_eq_true (by omega)], ⟨hO.sl ndC_length (by decide), fun x hx => ?_⟩, ?_, ?_, hE⟩
  · obtain ⟨d, hd, rfl⟩ := List.mem_map.1 hx
    obtain ⟨y, hy, e, _⟩ := nodeAt_is (hoi d hd)
    rw [e]
    exact (hl.ps y (List.mem_of_getElem? hy)).ext hE
  · rw [← ho]
    simp only [idsL, ndsL, List.map_map]
    conv => rhs; rw [← List.map_id o]
    refine List.map_congr_left fun d hd => ?_
    obtain ⟨y, hy, e, e2⟩ := nodeAt_is (hoi d hd)
    show (nodeAt l d).n.id = d
    rw [e, e2]
  · intro x hx
    simp only [ndsL, List.mem_map] at hx
    obtain ⟨z, ⟨d, hd, rfl⟩, rfl⟩ := hx
    obtain ⟨y, hy, e, _⟩ := nodeAt_is (hoi d hd)
    rw [e]
    exact List.mem_map.2 ⟨y, List.mem_of_getElem? hy, rfl⟩
set_option maxHeartbeats 1000000 in
theorem graphAnyOrder_any (u v0 v1 : Value) (l : List NdV) (a b : List Dig) (w : World) (hl : Nds w u l) (ha : Sl w digC 32 v0 a) (hb : Sl w digC 32 v1 b) : Calls Try.prog 11 #[u, v0, v1] w (Ret (True_ w)) := by
  refine calls_of_CW 83 [6] [(0, u), (1, v0), (2, v1)] Try.func11 rfl rfl rfl (by simp) args3 ?_
  have hE : Ext w w := Chg.refl
  refine CW.seq fun K1 hK1 => ?_
  refine CW.region ?_   -- region 0
  refine WL.val (Y.assign rfl) (by decide) ?_   -- t6 := assign c(false)
  refine WL.nil ?_
  refine hK1 _ _ ?_; try clear hK1 K1
  refine CW.seq fun K2 hK2 => ?_
  refine CW.region ?_   -- region 1
  refine WL.val (Y.move rfl) (by decide) ?_   -- t20 := move t0
  refine WL.call Try.func20 rfl rfl rfl (gcheck_any _ l _ hl) (by simp) ?_; rintro v w1 ⟨rfl, hx1⟩; have hz1 := hx1.size; have hE := hE.thenExt hx1; have hl := hl.ext hx1; have ha := ha.ext hx1; have hb := hb.ext hx1   -- t21 := call F20(t20) : 22
  refine WL.val (Y.move rfl) (by decide) ?_   -- t19 := move t21
  refine WL.val (Y.extract rfl rfl) (by decide) ?_   -- t22 := extract t19 0
  refine WL.val (Y.extract rfl rfl) (by decide) ?_   -- t23 := extract t19 1
  refine WL.val (Y.assign rfl) (by decide) ?_   -- t7 := assign t22
  refine WL.val (Y.assign rfl) (by decide) ?_   -- t8 := assign t23
  refine WL.nil ?_
  refine hK2 _ _ ?_; try clear hK2 K2
  refine CW.seq fun K3 hK3 => ?_
  refine CW.seq fun K4 hK4 => ?_
  refine CW.region ?_   -- region 2
  refine WL.val (Y.move rfl) (by decide) ?_   -- t24 := move t8
  refine WL.val (Y.neq rfl rfl) (by decide) ?_   -- t25 := binOp neq 24 t24 c(0:i64) 24
  refine WL.nil ?_
  refine hK4 _ _ ?_; try clear hK4 K4
  first | refine CW.condD rfl (fun ht5 => ?_) (fun ht5 => ?_) | refine CW.condND rfl (fun ht5 => ?_) (fun ht5 => ?_) | refine CW.condN rfl (fun ht5 => ?_) (fun ht5 => ?_) | refine CW.cond rfl (fun ht5 => ?_) (fun ht5 => ?_)
  · -- then
    refine CW.seq fun K6 hK6 => ?_
    refine CW.region ?_   -- region 3
    refine WL.call Try.func18 rfl rfl rfl (alive_any _) (by simp) ?_; rintro v w2 ⟨rfl, hx2⟩; have hz2 := hx2.size; have hE := hE.thenExt hx2; have hl := hl.ext hx2; have ha := ha.ext hx2; have hb := hb.ext hx2   -- t26 := call F18() : 
    refine WL.val (Y.assign rfl) (by decide) ?_   -- t6 := assign t26
    refine WL.nil ?_
    refine hK6 _ _ ?_; try clear hK6 K6
    refine CW.ret ⟨_, rfl, ?_⟩
    exact ⟨rfl, hE⟩
  -- else
  refine CW.skip ?_
  refine hK3 _ _ ?_; try clear hK3 K3
  refine CW.seq fun K7 hK7 => ?_
  refine CW.region ?_   -- region 4
  refine WL.val (Y.move rfl) (by decide) ?_   -- t28 := move t0
  refine WL.call Try.func32 rfl rfl rfl (sortedL_any _ l _ hl (Decidable.not_not.1 (by assumption))) (by simp) ?_; rintro v29 w3 hR3   -- t29 := call F32(t28) : 22
  have hok : (readE (ndsL l)).2 = 0 := Decidable.not_not.1 (by assumption)
  obtain ⟨mv, m, rfl, hm, hid, hsub, hx3⟩ := hR3
  skip; have hz3 := hx3.size; have hE := hE.thenExt hx3; have hl := hl.ext hx3; have ha := ha.ext hx3; have hb := hb.ext hx3
  refine WL.val (Y.move rfl) (by decide) ?_   -- t27 := move t29
  refine WL.val (Y.extract rfl rfl) (by decide) ?_   -- t30 := extract t27 0
  refine WL.val (Y.extract rfl rfl) (by decide) ?_   -- t31 := extract t27 1
  refine WL.val (Y.assign rfl) (by decide) ?_   -- t9 := assign t30
  refine WL.val (Y.assign rfl) (by decide) ?_   -- t10 := assign t31
  refine WL.nil ?_
  refine hK7 _ _ ?_; try clear hK7 K7
  refine CW.seq fun K8 hK8 => ?_
  refine CW.seq fun K9 hK9 => ?_
  refine CW.region ?_   -- region 5
  refine WL.val (Y.move rfl) (by decide) ?_   -- t32 := move t10
  refine WL.val (Y.not rfl) (by decide) ?_   -- t33 := unOp not 4 t32
  refine WL.nil ?_
  refine hK9 _ _ ?_; try clear hK9 K9
  first | refine CW.condD rfl (fun ht10 => ?_) (fun ht10 => ?_) | refine CW.condND rfl (fun ht10 => ?_) (fun ht10 => ?_) | refine CW.condN rfl (fun ht10 => ?_) (fun ht10 => ?_) | refine CW.cond rfl (fun ht10 => ?_) (fun ht10 => ?_)
  · -- then
    refine CW.seq fun K11 hK11 => ?_
    refine CW.region ?_   -- region 6
    refine WL.val (Y.assign rfl) (by decide) ?_   -- t6 := assign c(false)
    refine WL.nil ?_
    refine hK11 _ _ ?_; try clear hK11 K11
    refine CW.ret ⟨_, rfl, ?_⟩
    exfalso
    simp_all
  -- else
  refine CW.skip ?_
  refine hK8 _ _ ?_; try clear hK8 K8
  refine CW.seq fun K12 hK12 => ?_
  obtain ⟨g, hs2⟩ := sorted_grow hok hid hsub
  have hsame : ∀ d, d ∈ idsL (ndsL m) ↔ d ∈ idsL (ndsL l) := fun d => ⟨hs2 d, g.sub d⟩
  have hwq : wrongQ (ndsL m) (a ++ b) = wrongQ (ndsL l) (a ++ b) := wrongQ_same hok g.okm hsame
  have hcm : cmX (ndsL m) a b = cmX (ndsL l) a b := by
    rw [cmX, cmX, hwq]
    by_cases hq : wrongQ (ndsL l) (a ++ b) = 0
    · have hi := wrongQ_in7 hq
      rw [if_pos hq, if_pos hq, g.cmL (fun d hd => hi d (List.mem_append_left _ hd)) (fun d hd => hi d (List.mem_append_right _ hd))]
    · rw [if_neg hq, if_neg hq]
  have hla : laX (ndsL m) a b = laX (ndsL l) a b := by
    rw [laX, laX, hwq]
    by_cases hq : wrongQ (ndsL l) (a ++ b) = 0
    · have hi := wrongQ_in7 hq
      rw [if_pos hq, if_pos hq, g.lacksL (fun d hd => hi d (List.mem_append_left _ hd)) (fun d hd => hi d (List.mem_append_right _ hd))]
    · rw [if_neg hq, if_neg hq]
  refine CW.region ?_   -- region 7
  refine WL.val (Y.move rfl) (by decide) ?_   -- t35 := move t0
  refine WL.val (Y.move rfl) (by decide) ?_   -- t36 := move t1
  refine WL.val (Y.move rfl) (by decide) ?_   -- t37 := move t2
  refine WL.call Try.func28 rfl rfl rfl (gCommonX_any _ _ _ l a b _ hl ha hb) (by simp) ?_; rintro v38 w4 hR4   -- t38 := call F28(t35, t36, t37) : 22,23,23
  obtain ⟨hv4, rfl, hS1, hx4⟩ := hR4
  skip; have hz4 := hx4.size; have hE := hE.thenExt hx4; have hl := hl.ext hx4; have ha := ha.ext hx4; have hb := hb.ext hx4; have hm := hm.ext hx4
  refine WL.val (Y.move rfl) (by decide) ?_   -- t34 := move t38
  refine WL.val (Y.extract rfl rfl) (by decide) ?_   -- t39 := extract t34 0
  refine WL.val (Y.extract rfl rfl) (by decide) ?_   -- t40 := extract t34 1
  refine WL.val (Y.assign rfl) (by decide) ?_   -- t11 := assign t39
  refine WL.val (Y.assign rfl) (by decide) ?_   -- t12 := assign t40
  refine WL.nil ?_
  refine hK12 _ _ ?_; try clear hK12 K12
  refine CW.seq fun K13 hK13 => ?_
  refine CW.region ?_   -- region 8
  refine WL.val (Y.move rfl) (by decide) ?_   -- t42 := move t9
  refine WL.val (Y.move rfl) (by decide) ?_   -- t43 := move t1
  refine WL.val (Y.move rfl) (by decide) ?_   -- t44 := move t2
  refine WL.call Try.func28 rfl rfl rfl (gCommonX_any _ _ _ m a b _ hm ha hb) (by simp) ?_; rintro v45 w5 hR5   -- t45 := call F28(t42, t43, t44) : 22,23,23
  obtain ⟨hv5, rfl, hS2, hx5⟩ := hR5
  skip; have hz5 := hx5.size; have hE := hE.thenExt hx5; have hl := hl.ext hx5; have ha := ha.ext hx5; have hb := hb.ext hx5; have hm := hm.ext hx5; have hS1 := hS1.ext hx5
  refine WL.val (Y.move rfl) (by decide) ?_   -- t41 := move t45
  refine WL.val (Y.extract rfl rfl) (by decide) ?_   -- t46 := extract t41 0
  refine WL.val (Y.extract rfl rfl) (by decide) ?_   -- t47 := extract t41 1
  refine WL.val (Y.assign rfl) (by decide) ?_   -- t13 := assign t46
  refine WL.val (Y.assign rfl) (by decide) ?_   -- t14 := assign t47
  refine WL.nil ?_
  refine hK13 _ _ ?_; try clear hK13 K13
  refine CW.seq fun K14 hK14 => ?_
  refine CW.region ?_   -- region 9
  refine WL.val (Y.move rfl) (by decide) ?_   -- t49 := move t0
  refine WL.val (Y.move rfl) (by decide) ?_   -- t50 := move t1
  refine WL.val (Y.move rfl) (by decide) ?_   -- t51 := move t2
  refine WL.call Try.func23 rfl rfl rfl (gLacksX_any _ _ _ l a b _ hl ha hb) (by simp) ?_; rintro v52 w6 hR6   -- t52 := call F23(t49, t50, t51) : 22,23,23
  obtain ⟨hv6, rfl, hS3, hx6⟩ := hR6
  skip; have hz6 := hx6.size; have hE := hE.thenExt hx6; have hl := hl.ext hx6; have ha := ha.ext hx6; have hb := hb.ext hx6; have hm := hm.ext hx6; have hS1 := hS1.ext hx6; have hS2 := hS2.ext hx6
  refine WL.val (Y.move rfl) (by decide) ?_   -- t48 := move t52
  refine WL.val (Y.extract rfl rfl) (by decide) ?_   -- t53 := extract t48 0
  refine WL.val (Y.extract rfl rfl) (by decide) ?_   -- t54 := extract t48 1
  refine WL.val (Y.assign rfl) (by decide) ?_   -- t15 := assign t53
  refine WL.val (Y.assign rfl) (by decide) ?_   -- t16 := assign t54
  refine WL.nil ?_
  refine hK14 _ _ ?_; try clear hK14 K14
  refine CW.seq fun K15 hK15 => ?_
  refine CW.region ?_   -- region 10
  refine WL.val (Y.move rfl) (by decide) ?_   -- t56 := move t9
  refine WL.val (Y.move rfl) (by decide) ?_   -- t57 := move t1
  refine WL.val (Y.move rfl) (by decide) ?_   -- t58 := move t2
  refine WL.call Try.func23 rfl rfl rfl (gLacksX_any _ _ _ m a b _ hm ha hb) (by simp) ?_; rintro v59 w7 hR7   -- t59 := call F23(t56, t57, t58) : 22,23,23
  obtain ⟨hv7, rfl, hS4, hx7⟩ := hR7
  skip; have hz7 := hx7.size; have hE := hE.thenExt hx7; have hl := hl.ext hx7; have ha := ha.ext hx7; have hb := hb.ext hx7; have hm := hm.ext hx7; have hS1 := hS1.ext hx7; have hS2 := hS2.ext hx7; have hS3 := hS3.ext hx7
  refine WL.val (Y.move rfl) (by decide) ?_   -- t55 := move t59
  refine WL.val (Y.extract rfl rfl) (by decide) ?_   -- t60 := extract t55 0
  refine WL.val (Y.extract rfl rfl) (by decide) ?_   -- t61 := extract t55 1
  refine WL.val (Y.assign rfl) (by decide) ?_   -- t17 := assign t60
  refine WL.val (Y.assign rfl) (by decide) ?_   -- t18 := assign t61
  refine WL.nil ?_
  refine hK15 _ _ ?_; try clear hK15 K15
  refine CW.seq fun K16 hK16 => ?_
  refine CW.region ?_   -- region 11
  refine WL.val (Y.move rfl) (by decide) ?_   -- t62 := move t11
  refine WL.val (Y.move rfl) (by decide) ?_   -- t63 := move t13
  refine WL.call Try.func17 rfl rfl rfl (rSameD_any _ _ (cmX (ndsL l) a b) (cmX (ndsL m) a b) _ hS1 hS2) (by simp) ?_; rintro v w8 ⟨rfl, hx8⟩; have hz8 := hx8.size; have hE := hE.thenExt hx8; have hl := hl.ext hx8; have ha := ha.ext hx8; have hb := hb.ext hx8; have hm := hm.ext hx8; have hS1 := hS1.ext hx8; have hS2 := hS2.ext hx8; have hS3 := hS3.ext hx8; have hS4 := hS4.ext hx8   -- t64 := call F17(t62, t63) : 23,23
  refine WL.val (Y.move rfl) (by decide) ?_   -- t65 := move t64
  refine WL.know (d := 65) (u := .bool true) rfl (by rw [hcm, decide_eq_true rfl]) ?_
  refine WL.gval rfl rfl (Y.move rfl) (by decide) ?_   -- t66 := move t12 [if 3=true]
  refine WL.gval rfl rfl (Y.move rfl) (by decide) ?_   -- t67 := move t14 [if 3=true]
  refine WL.gval rfl rfl (Y.eql rfl rfl) (by decide) ?_   -- t68 := binOp eql 24 t66 t67 24 [if 3=true]
  refine WL.val (Y.pick rfl rfl) (by decide) ?_   -- t69 := pick t65 t68 c(false)
  refine WL.val (Y.move rfl) (by decide) ?_   -- t70 := move t69
  refine WL.know (d := 70) (u := .bool true) rfl (by rw [hwq, decide_eq_true rfl]) ?_
  refine WL.gval rfl rfl (Y.move rfl) (by decide) ?_   -- t71 := move t15 [if 8=true]
  refine WL.gval rfl rfl (Y.move rfl) (by decide) ?_   -- t72 := move t17 [if 8=true]
  refine WL.gcall rfl rfl Try.func17 rfl rfl rfl (rSameD_any _ _ (laX (ndsL l) a b) (laX (ndsL m) a b) _ hS3 hS4) (by decide) ?_; rintro v w9 ⟨rfl, hx9⟩; have hz9 := hx9.size; have hE := hE.thenExt hx9; have hl := hl.ext hx9; have ha := ha.ext hx9; have hb := hb.ext hx9; have hm := hm.ext hx9; have hS1 := hS1.ext hx9; have hS2 := hS2.ext hx9; have hS3 := hS3.ext hx9; have hS4 := hS4.ext hx9   -- t73 := call F17(t71, t72) : 23,23 [if 8=true]
  refine WL.val (Y.pick rfl rfl) (by decide) ?_   -- t74 := pick t70 t73 c(false)
  refine WL.val (Y.move rfl) (by decide) ?_   -- t75 := move t74
  refine WL.know (d := 75) (u := .bool true) rfl (by rw [hla, decide_eq_true rfl]) ?_
  refine WL.gval rfl rfl (Y.move rfl) (by decide) ?_   -- t76 := move t16 [if 13=true]
  refine WL.gval rfl rfl (Y.move rfl) (by decide) ?_   -- t77 := move t18 [if 13=true]
  refine WL.gval rfl rfl (Y.eql rfl rfl) (by decide) ?_   -- t78 := binOp eql 24 t76 t77 24 [if 13=true]
  refine WL.val (Y.pick rfl rfl) (by decide) ?_   -- t79 := pick t75 t78 c(false)
  refine WL.val (Y.move rfl) (by decide) ?_   -- t80 := move t79
  refine WL.know (d := 80) (u := .bool true) rfl (by rw [hwq, decide_eq_true rfl]) ?_
  refine WL.gcall rfl rfl Try.func18 rfl rfl rfl (alive_any _) (by decide) ?_; rintro v w10 ⟨rfl, hx10⟩; have hz10 := hx10.size; have hE := hE.thenExt hx10; have hl := hl.ext hx10; have ha := ha.ext hx10; have hb := hb.ext hx10; have hm := hm.ext hx10; have hS1 := hS1.ext hx10; have hS2 := hS2.ext hx10; have hS3 := hS3.ext hx10; have hS4 := hS4.ext hx10   -- t81 := call F18() :  [if 18=true]
  refine WL.val (Y.pick rfl rfl) (by decide) ?_   -- t82 := pick t80 t81 c(false)
  refine WL.val (Y.assign rfl) (by decide) ?_   -- t6 := assign t82
  refine WL.nil ?_
  refine hK16 _ _ ?_; try clear hK16 K16
  refine CW.ret ⟨_, rfl, ?_⟩
  exact ⟨rfl, hE⟩
end Go.Proofs.Ytecolkngbcgmcaa
